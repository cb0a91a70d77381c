/-
  Piles: which letters can be opened, and the first form.
-/
import Derived.Test.YtmpbbkldopfkpaaDoorL2
namespace Go.Proofs.YtmpbbkldopfkpaaDoor
open Go.RowKit
set_option linter.unusedVariables false

def okD (d : List Int) : Prop := d.length = 6 ∧ ∀ i, i < 6 → 0 ≤ d.getD i 0 ∧ d.getD i 0 < 64
instance (d : List Int) : Decidable (okD d) := by unfold okD; infer_instance
def isL (b : UInt8) : Prop := 97 ≤ b.toNat ∧ b.toNat ≤ 102
instance (b : UInt8) : Decidable (isL b) := by unfold isL; infer_instance
def Do (o : Of) (x y : UInt8) : Bool := !frp o.2.1 ((x.toNat : Int) - 97) ((y.toNat : Int) - 97)
theorem Do_bnd {o : Of} (h : errO o = 0) : Bnd (Do o) := ⟨fun x => by unfold Do; rw [frp_bound h]; rfl, fun x y => by unfold Do; rw [frp_symm]⟩
theorem Dk_deskO {o : Of} (h : errO o = 0) {x y : UInt8} (hx : 97 ≤ x.toNat ∧ (x.toNat : Int) ≤ 97 + o.1 - 1) (hy : 97 ≤ y.toNat ∧ (y.toNat : Int) ≤ 97 + o.1 - 1) : Dk (deskO o) x y = Do o x y := by
  obtain ⟨hk, _, _⟩ := errO_zero h
  have hd : Dsk (bits o.1 o.2.1) (deskO o) := deskF_ok fun i j hj => by
    unfold bits
    rw [decide_eq_false (show ¬ (j : Int) < o.1 by omega), Bool.and_false, Bool.false_and]
  obtain ⟨m, h1, h2, h3⟩ := hd.2 (x.toNat - 97) (by omega)
  unfold Dk Do
  rw [h2, Int.toNat_natCast, Nat.shiftRight_eq_div_pow]
  have e := h3 (y.toNat - 97)
  rw [Nat.testBit_eq_decide_div_mod_eq] at e
  have e2 : (m / 2 ^ (y.toNat - 97) % 2 == 1) = decide (m / 2 ^ (y.toNat - 97) % 2 = 1) := rfl
  rw [e2, e]
  unfold bits
  rw [decide_eq_true (by omega), decide_eq_true (by omega), Bool.true_and, Bool.true_and, show ((x.toNat - 97 : Nat) : Int) = (x.toNat : Int) - 97 by omega, show ((y.toNat - 97 : Nat) : Int) = (y.toNat : Int) - 97 by omega]
def Pl' (S : List Nat) : Lf := S.map fun i : Nat => ((i : Int), true)
def kz (l : Lf) : List Nat := l.map fun p => p.1.toNat
theorem kz_Pl (S : List Nat) : kz (Pl' S) = S := by
  unfold kz Pl'
  rw [List.map_map]
  exact (List.map_congr_left fun i _ => by simp).trans (List.map_id S)
def Vp (d : List Int) (log : Wd) (l : Lf) : Prop := okD d ∧ (∀ b ∈ log, isL b) ∧ log.length ≤ 20 ∧ l = Pl' (kz l) ∧ (kz l).Pairwise (· < ·) ∧ ∀ k ∈ kz l, k < log.length
instance (d : List Int) (log : Wd) (l : Lf) : Decidable (Vp d log l) := by unfold Vp; infer_instance
def fr (D : UInt8 → UInt8 → Bool) (log : Wd) (S : List Nat) (i : Nat) : Bool := S.all fun k => !(decide (k < i) && D (log.getD k 0) (log.getD i 0))
theorem getD_mem {α : Type} {l : List α} {i : Nat} {d : α} (h : i < l.length) : l.getD i d ∈ l := by
  rw [List.getD_eq_getElem?_getD, List.getElem?_eq_getElem h]; exact List.getElem_mem h
theorem ofNat_toNat (b : UInt8) : UInt8.ofNat ((b.toNat : Int)).toNat = b := by
  rw [Int.toNat_natCast]; exact UInt8.ofNat_toNat
def fnd (D : UInt8 → UInt8 → Bool) (log : Wd) (S : List Nat) (k : Int) : Option Nat := S.find? fun i => decide (((log.getD i 0).toNat : Int) = k) && fr D log S i
def rmw (log : Wd) (S : List Nat) : Wd := S.map fun i => log.getD i 0
theorem rmw_mem {log : Wd} {S : List Nat} (h : ∀ k ∈ S, k < log.length) {x : UInt8} (hx : x ∈ rmw log S) : x ∈ log := by
  obtain ⟨i, hi, rfl⟩ := List.mem_map.1 hx
  exact getD_mem (h i hi)
section
variable {D : UInt8 → UInt8 → Bool}

theorem fnd_tk {log : Wd} {S : List Nat} (hs : S.Pairwise (· < ·)) {x : UInt8} (hx : x ∈ rmw log S → D x x = true) :
    (∀ i, fnd D log S (x.toNat : Int) = some i → i ∈ S ∧ tk D x (rmw log S) = some (rmw log (S.erase i))) ∧ (fnd D log S (x.toNat : Int) = none → tk D x (rmw log S) = none) := by
  have hxe : ∀ b : UInt8, ((b.toNat : Int) = (x.toNat : Int)) ↔ b = x := fun b => ⟨fun h => UInt8.toNat_inj.1 (by omega), fun h => by rw [h]⟩
  constructor
  · intro i hi
    have h1 : i ∈ S := List.mem_of_find?_eq_some hi
    have h2 := List.find?_some hi
    simp only [Bool.and_eq_true, decide_eq_true_eq, hxe] at h2
    obtain ⟨h2, h3⟩ := h2
    have hxx := hx (List.mem_map.2 ⟨i, h1, h2⟩)
    refine ⟨h1, ?_⟩
    obtain ⟨u, v, rfl⟩ := List.append_of_mem h1
    have hp := List.pairwise_append.1 hs
    have hu : ∀ k ∈ u, k < i := fun k hk => hp.2.2 k hk i (by simp)
    have hiu : i ∉ u := fun h => by have := hu i h; omega
    have e1 : (u ++ i :: v).erase i = u ++ v := by
      rw [List.erase_append_right _ hiu, List.erase_cons_head]
    rw [e1]
    unfold rmw
    rw [List.map_append, List.map_cons, List.map_append, h2]
    refine tk_of _ _ fun z hz => ?_
    obtain ⟨k, hk, rfl⟩ := List.mem_map.1 hz
    have := List.all_eq_true.1 h3 k (by simp [hk])
    rw [decide_eq_true (hu k hk), Bool.true_and, h2] at this
    have hD : D (log.getD k 0) x = false := by simpa using this
    exact ⟨fun e => by (rw [e, hxx] at hD; cases hD), hD⟩
  · intro hn
    cases ht : tk D x (rmw log S) with
    | none => rfl
    | some l' =>
      exfalso
      obtain ⟨u, v, e1, e2, e3⟩ := tk_some ht
      unfold rmw at e1
      obtain ⟨u', v', rfl, hu, hv⟩ := List.map_eq_append_iff.1 e1
      obtain ⟨i, v2, rfl, hi, rfl⟩ := List.map_eq_cons_iff.1 hv
      have := List.find?_eq_none.1 hn i (by simp)
      refine this ?_
      rw [Bool.and_eq_true, decide_eq_true_eq]
      refine ⟨by rw [hi], List.all_eq_true.2 fun k hk => ?_⟩
      have hp := List.pairwise_append.1 hs
      by_cases hki : k < i
      · have hku : k ∈ u' := by
          rcases List.mem_append.1 hk with h | h
          · exact h
          · rcases List.mem_cons.1 h with h | h
            · omega
            · have := (List.pairwise_cons.1 hp.2.1).1 k h; omega
        have := (e3 (log.getD k 0) (by rw [← hu]; exact List.mem_map.2 ⟨k, hku, rfl⟩)).2
        rw [hi, this, Bool.and_false]; rfl
      · rw [decide_eq_false hki]; rfl
end

theorem Vp.erase {d : List Int} {log : Wd} {S : List Nat} (h : Vp d log (Pl' S)) (i : Nat) : Vp d log (Pl' (S.erase i)) := by
  obtain ⟨a, b, c, e, f, g⟩ := h
  rw [kz_Pl] at f g
  refine ⟨a, b, c, by rw [kz_Pl], ?_, ?_⟩
  · rw [kz_Pl]; exact f.sublist (List.erase_sublist)
  · rw [kz_Pl]; exact fun k hk => g k (List.mem_of_mem_erase hk)
theorem isL_abc {b : UInt8} (h : isL b) : b ∈ abc := by
  have h1 : b.toNat = 97 ∨ b.toNat = 98 ∨ b.toNat = 99 ∨ b.toNat = 100 ∨ b.toNat = 101 ∨ b.toNat = 102 := by unfold isL at h; omega
  have e : ∀ c : UInt8, b.toNat = c.toNat → b = c := fun c => UInt8.toNat_inj.1
  rcases h1 with h | h | h | h | h | h
  · rw [e 97 h]; decide
  · rw [e 98 h]; decide
  · rw [e 99 h]; decide
  · rw [e 100 h]; decide
  · rw [e 101 h]; decide
  · rw [e 102 h]; decide
theorem rmw_range (log : Wd) : rmw log (List.range log.length) = log := by
  unfold rmw
  apply List.ext_getElem
  · simp
  · intro i h1 h2
    rw [List.getElem_map, List.getElem_range, List.getD_eq_getElem?_getD, List.getElem?_eq_getElem h2]; rfl
theorem errL1_zero {k : Int} {l : Wd} (h : errL1 k l = 0) : l.length ≤ 14 ∧ ∀ b ∈ l, 97 ≤ (b.toNat : Int) ∧ (b.toNat : Int) ≤ 97 + k - 1 := by
  unfold errL1 at h
  split at h
  · cases h
  · rename_i h1
    split at h
    · rename_i h2
      refine ⟨by omega, fun b hb => ?_⟩
      have := List.all_eq_true.1 h2 b hb
      simpa using this
    · cases h
theorem Dk_refl {o : Of} (h : errO o = 0) {x : UInt8} (hx : 97 ≤ (x.toNat : Int) ∧ (x.toNat : Int) ≤ 97 + o.1 - 1) : Dk (deskO o) x x = true := by
  rw [Dk_deskO h (by omega) (by omega)]
  exact (Do_bnd h).refl x
end Go.Proofs.YtmpbbkldopfkpaaDoor
