/-
 Piles: which letters can be opened, and the first form.
-/
import Derived.Test.YtmpbbkldopfkpaaDoorL2
namespace Go.Proofs.YtmpbbkldopfkpaaDoor
open Go.RowKit
set_option linter.unusedVariables false

def okD (d : List Int) : Prop := d.length = 6 ∧ ∀ i, i < 6 → 0 ≤ d.getD i 0 ∧ d.getD i 0 < 64
instance (d : List Int) : Decidable (okD d) := by unfold okD; infer_instance
theorem deskO_ok (o : Of) : okD (deskO o) := by
 refine ⟨rfl, fun i hi => ?_⟩
 have h := fun b => rowN_lt (bits o.1 o.2.1 b)
 match i, hi with
 | 0, _ => have := h 0; constructor <;> (show _ ) <;> simp [deskO, deskF] <;> omega
 | 1, _ => have := h 1; constructor <;> (show _ ) <;> simp [deskO, deskF] <;> omega
 | 2, _ => have := h 2; constructor <;> (show _ ) <;> simp [deskO, deskF] <;> omega
 | 3, _ => have := h 3; constructor <;> (show _ ) <;> simp [deskO, deskF] <;> omega
 | 4, _ => have := h 4; constructor <;> (show _ ) <;> simp [deskO, deskF] <;> omega
 | 5, _ => have := h 5; constructor <;> (show _ ) <;> simp [deskO, deskF] <;> omega
def isL (b : UInt8) : Prop := 97 ≤ b.toNat ∧ b.toNat ≤ 102
instance (b : UInt8) : Decidable (isL b) := by unfold isL; infer_instance
def Do (o : Of) (x y : UInt8) : Bool := !frp o.2.1 ((x.toNat : Int) - 97) ((y.toNat : Int) - 97)
theorem Do_bnd {o : Of} (h : errO o = 0) : Bnd (Do o) := ⟨fun x => by unfold Do; rw [frp_bound h]; rfl, fun x y => by unfold Do; rw [frp_symm]⟩
theorem Dk_deskO {o : Of} (h : errO o = 0) {x y : UInt8} (hx : 97 ≤ x.toNat ∧ (x.toNat : Int) ≤ 97 + o.1 - 1) (hy : 97 ≤ y.toNat ∧ (y.toNat : Int) ≤ 97 + o.1 - 1) : Dk (deskO o) x y = Do o x y := by
 obtain ⟨hk, _, _⟩ := errO_zero h
 have hd : Dsk (bits o.1 o.2.1) (deskO o) := deskF_ok fun i j hj => by
  unfold bits
  rw [decide_eq_false (show ¬ (j : Int) < o.1 by omega), Bool.and_false, Bool.false_and]
 obtain ⟨m, h1, h2, h3⟩ := hd.2 (x.toNat - 97) (by omega)
 unfold Dk Do
 rw [h2, Int.toNat_natCast, Nat.shiftRight_eq_div_pow]
 have e := h3 (y.toNat - 97)
 rw [Nat.testBit_eq_decide_div_mod_eq] at e
 have e2 : (m / 2 ^ (y.toNat - 97) % 2 == 1) = decide (m / 2 ^ (y.toNat - 97) % 2 = 1) := rfl
 rw [e2, e]
 unfold bits
 rw [decide_eq_true (by omega), decide_eq_true (by omega), Bool.true_and, Bool.true_and, show ((x.toNat - 97 : Nat) : Int) = (x.toNat : Int) - 97 by omega, show ((y.toNat - 97 : Nat) : Int) = (y.toNat : Int) - 97 by omega]
def B49 (d : List Int) (x y : Int) : Option Bool := if okD d ∧ (97 ≤ x ∧ x ≤ 102) ∧ 97 ≤ y ∧ y ≤ 102 then some (Dk d (UInt8.ofNat x.toNat) (UInt8.ofNat y.toNat)) else none
theorem kb49 : FnOk Tryd.prog 49 (F49 B49) := ok49 B49 fun d x y r h => ⟨0, by
 unfold B49 at h
 split at h
 ·rename_i hq
  obtain ⟨⟨hl, hd⟩, hx, hy⟩ := hq
  obtain rfl := Option.some.inj h
  obtain ⟨a, rfl⟩ : ∃ a : Nat, x = (a : Int) + 97 := ⟨(x - 97).toNat, by omega⟩
  obtain ⟨b, rfl⟩ : ∃ b : Nat, y = (b : Int) + 97 := ⟨(y - 97).toNat, by omega⟩
  obtain ⟨h1, h2⟩ := hd a (by omega)
  obtain ⟨m, hm⟩ : ∃ m : Nat, d.getD a 0 = (m : Int) := ⟨(d.getD a 0).toNat, by omega⟩
  unfold m49
  rw [show ((a : Int) + 97 - 97) = (a : Int) by omega, show ((b : Int) + 97 - 97) = (b : Int) by omega, wrap_u8 (by omega) (by omega), wrap_u8 (by omega) (by omega), chk_dec (by omega), chk_dec (by omega), Int.toNat_natCast a, hm, bit_u64 (by omega) (by omega)]
  unfold Dk
  have ea : (UInt8.ofNat ((a : Int) + 97).toNat).toNat - 97 = a := by
   rw [UInt8.toNat_ofNat', Nat.mod_eq_of_lt (by omega)]; omega
  have eb : (UInt8.ofNat ((b : Int) + 97).toNat).toNat - 97 = b := by
   rw [UInt8.toNat_ofNat', Nat.mod_eq_of_lt (by omega)]; omega
  rw [ea, eb, hm, Int.toNat_natCast, Nat.shiftRight_eq_div_pow, Nat.testBit_eq_decide_div_mod_eq]
  rfl
 ·cases h⟩
def Pl' (S : List Nat) : Lf := S.map fun i : Nat => ((i : Int), true)
def kz (l : Lf) : List Nat := l.map fun p => p.1.toNat
theorem kz_Pl (S : List Nat) : kz (Pl' S) = S := by
 unfold kz Pl'
 rw [List.map_map]
 exact (List.map_congr_left fun i _ => by simp).trans (List.map_id S)
theorem mget_Pl (i : Nat) : ∀ S : List Nat, mget (kt := .int .i64) (vt := .bool) (Pl' S) (i : Int) = if i ∈ S then some true else none
 | [] => rfl
 | j :: S => by
  show cond (decide ((i : Int) = (j : Int))) (some true) (mget (kt := .int .i64) (vt := .bool) (Pl' S) (i : Int)) = _
  rw [mget_Pl i S]
  by_cases h : i = j
  ·subst h; simp
  ·rw [decide_eq_false (by omega), cond_false]
   simp [h]
theorem mget_Pl_b (i : Nat) (S : List Nat) : (mget (kt := .int .i64) (vt := .bool) (Pl' S) (i : Int)).getD false = decide (i ∈ S) := by
 rw [mget_Pl]
 by_cases h : i ∈ S
 ·rw [if_pos h, decide_eq_true h]; rfl
 ·rw [if_neg h, decide_eq_false h]; rfl
theorem mdel_Pl (i : Nat) : ∀ S : List Nat, mdel (kt := .int .i64) (vt := .bool) (Pl' S) (i : Int) = Pl' (S.erase i)
 | [] => rfl
 | j :: S => by
  show cond (decide ((i : Int) = (j : Int))) (Pl' S) (((j : Int), true) :: mdel (kt := .int .i64) (vt := .bool) (Pl' S) (i : Int)) = _
  rw [mdel_Pl i S, List.erase_cons]
  by_cases h : i = j
  ·subst h; simp
  ·rw [decide_eq_false (by omega), cond_false, if_neg (by simpa using fun e : j = i => h e.symm)]; rfl
theorem mput_Pl (i : Nat) : ∀ S : List Nat, i ∉ S → mput (kt := .int .i64) (vt := .bool) (Pl' S) (i : Int) true = Pl' (S ++ [i])
 | [], _ => rfl
 | j :: S, h => by
  have h1 : i ≠ j := fun e => h (by simp [e])
  show cond (decide ((i : Int) = (j : Int))) _ (((j : Int), true) :: mput (kt := .int .i64) (vt := .bool) (Pl' S) (i : Int) true) = _
  rw [mput_Pl i S (fun e => h (by simp [e])), decide_eq_false (by omega), cond_false]; rfl
def Vp (d : List Int) (log : Wd) (l : Lf) : Prop := okD d ∧ (∀ b ∈ log, isL b) ∧ log.length ≤ 20 ∧ l = Pl' (kz l) ∧ (kz l).Pairwise (· < ·) ∧ ∀ k ∈ kz l, k < log.length
instance (d : List Int) (log : Wd) (l : Lf) : Decidable (Vp d log l) := by unfold Vp; infer_instance
def fr (D : UInt8 → UInt8 → Bool) (log : Wd) (S : List Nat) (i : Nat) : Bool := S.all fun k => !(decide (k < i) && D (log.getD k 0) (log.getD i 0))
def B46 (i : Int) (d : List Int) (log : Wd) (l : Lf) : Option (Bool × List Int × Wd × Lf) :=
 if Vp d log l ∧ 0 ≤ i ∧ i < log.length then some (decide (i.toNat ∈ kz l) && fr (Dk d) log (kz l) i.toNat, d, log, l) else none
theorem getD_mem {α : Type} {l : List α} {i : Nat} {d : α} (h : i < l.length) : l.getD i d ∈ l := by
 rw [List.getD_eq_getElem?_getD, List.getElem?_eq_getElem h]; exact List.getElem_mem h
theorem ofNat_toNat (b : UInt8) : UInt8.ofNat ((b.toNat : Int)).toNat = b := by
 rw [Int.toNat_natCast]; exact UInt8.ofNat_toNat
theorem B49_of {d : List Int} (hd : okD d) {x y : UInt8} (hx : isL x) (hy : isL y) : B49 d (x.toNat : Int) (y.toNat : Int) = some (Dk d x y) := by
 unfold B49
 unfold isL at hx hy
 rw [if_pos ⟨hd, by omega, by omega, by omega⟩, ofNat_toNat, ofNat_toNat]
theorem kb46 : FnOk Tryd.prog 46 (F46c B46) := ok46c B49 kb49 B46 fun i d log l r h => ⟨30, by
 unfold B46 at h
 split at h
 ·rename_i hq
  obtain ⟨⟨hd, hL, hn, hl, hs, hlt⟩, h0, h1⟩ := hq
  obtain rfl := Option.some.inj h
  obtain ⟨i, rfl⟩ : ∃ k : Nat, i = (k : Int) := ⟨i.toNat, by omega⟩
  generalize hS : kz l = S at *
  subst hl
  unfold m46c
  rw [mget_Pl_b, Int.toNat_natCast]
  by_cases hi : i ∈ S
  ·rw [decide_eq_true hi, Bool.not_true, cond_false, Bool.true_and]
   have hil : i < log.length := by omega
   have key := countUp 0 (i : Int) (by omega) (fun n (_ : Unit) t => l46ca B49 30 (i : Int) d log (Pl' S) n t) (fun t _ => 0 ≤ t) (fun t _ => some ((S.all fun k => !(decide (t ≤ (k : Int)) && decide (k < i) && Dk d (log.getD k 0) (log.getD i 0))), d, log, Pl' S)) (fun n _ t t0 t1 _ ih => ?_) (fun n _ _ => ?_) 30 () (by omega) (by omega)
   ·rw [key]
    unfold fr
    congr 2
   ·show l46ca B49 30 (i : Int) d log (Pl' S) (n + 1) t = _
    obtain ⟨t, rfl⟩ : ∃ k : Nat, t = (k : Int) := ⟨t.toNat, by omega⟩
    rw [l46ca, decide_eq_true t1, cond_true, mget_Pl_b, chk_dec (by omega), chk_dec (by omega), Int.toNat_natCast, Int.toNat_natCast, B49_of hd (hL _ (getD_mem (by omega))) (hL _ (getD_mem hil)), Option.bind_some, w64_succ (by omega)]
    have step : ∀ b : Bool, b = (decide (t ∈ S) && Dk d (log.getD t 0) (log.getD i 0)) → (S.all fun k => !(decide ((t : Int) ≤ (k : Int)) && decide (k < i) && Dk d (log.getD k 0) (log.getD i 0))) = (!b && S.all fun k => !(decide ((t : Int) + 1 ≤ (k : Int)) && decide (k < i) && Dk d (log.getD k 0) (log.getD i 0))) := by
     rintro b rfl
     rw [Bool.eq_iff_iff]
     simp only [List.all_eq_true, Bool.not_eq_true', Bool.and_eq_false_iff, decide_eq_false_iff_not, Bool.and_eq_true, Bool.not_eq_true']
     constructor
     ·intro hall
      refine ⟨?_, fun k hk => ?_⟩
      ·by_cases ht : t ∈ S
       ·have := hall t ht
        rcases this with (h | h) | h
        ·omega
        ·omega
        ·exact .inr h
       ·exact .inl ht
      ·rcases hall k hk with (h | h) | h
       ·exact .inl (.inl (by omega))
       ·exact .inl (.inr h)
       ·exact .inr h
     ·rintro ⟨ha, hb⟩ k hk
      by_cases hkt : k = t
      ·subst hkt
       rcases ha with ha | ha
       ·exact absurd hk ha
       ·exact .inr ha
      ·rcases hb k hk with (h | h) | h
       ·exact .inl (.inl (by omega))
       ·exact .inl (.inr h)
       ·exact .inr h
    have ih' := ih () (by omega)
    by_cases ht : t ∈ S
    ·rw [decide_eq_true ht, cond_true]
     cases hD : Dk d (log.getD t 0) (log.getD i 0) with
     | true => rw [cond_true, step true (by rw [decide_eq_true ht, hD]; rfl)]; rfl
     | false => rw [cond_false, step false (by rw [hD, Bool.and_false])]; exact ih'
    ·rw [decide_eq_false ht, cond_false, step false (by rw [decide_eq_false ht]; rfl)]
     exact ih'
   ·show l46ca B49 30 (i : Int) d log (Pl' S) (n + 1) (i : Int) = _
    rw [l46ca, decide_eq_false (by omega), cond_false]
    have : (S.all fun k => !(decide ((i : Int) ≤ (k : Int)) && decide (k < i) && Dk d (log.getD k 0) (log.getD i 0))) = true := by
     rw [List.all_eq_true]
     intro k _
     by_cases hk : k < i
     ·rw [decide_eq_false (show ¬ (i : Int) ≤ k by omega)]; rfl
     ·rw [decide_eq_false hk, Bool.and_false]; rfl
    rw [this]
  ·rw [decide_eq_false hi]; rfl
 ·cases h⟩
def fnd (D : UInt8 → UInt8 → Bool) (log : Wd) (S : List Nat) (k : Int) : Option Nat := S.find? fun i => decide (((log.getD i 0).toNat : Int) = k) && fr D log S i
def B53 (k : Int) (d : List Int) (log : Wd) (l : Lf) : Option (Int × Bool × List Int × Wd × Lf) :=
 if Vp d log l then some (match fnd (Dk d) log (kz l) k with
  | some i => ((i : Int), true, d, log, l)
  | none => (0, false, d, log, l)) else none
theorem find_from (P : Nat → Bool) (S : List Nat) (hs : S.Pairwise (· < ·)) (t : Nat) : (S.find? fun i => decide (t ≤ i) && P i) = if t ∈ S ∧ P t = true then some t else S.find? fun i => decide (t + 1 ≤ i) && P i := by
 induction S with
 | nil => simp
 | cons j S ih =>
  obtain ⟨h1, h2⟩ := List.pairwise_cons.1 hs
  rw [List.find?_cons, List.find?_cons, ih h2]
  by_cases hj : j = t
  ·subst hj
   have e1 : decide (j + 1 ≤ j) = false := decide_eq_false (by omega)
   rw [e1, Bool.false_and, decide_eq_true (Nat.le_refl j), Bool.true_and]
   have hn : j ∉ S := fun h => by have := h1 j h; omega
   cases hP : P j with
   | true => simp
   | false => simp
  ·by_cases hlt : j < t
   ·rw [decide_eq_false (show ¬ t ≤ j by omega), decide_eq_false (show ¬ t + 1 ≤ j by omega)]
    simp [show ¬ t = j from fun e => hj e.symm]
   ·have hn : t ∉ S := fun h => by have := h1 t h; omega
    rw [decide_eq_true (show t ≤ j by omega), decide_eq_true (show t + 1 ≤ j by omega)]
    simp [show ¬ t = j from fun e => hj e.symm, hn]
theorem find_past (P : Nat → Bool) (S : List Nat) (t : Nat) (h : ∀ k ∈ S, k < t) : (S.find? fun i => decide (t ≤ i) && P i) = none := by
 rw [List.find?_eq_none]
 intro k hk
 rw [decide_eq_false (by have := h k hk; omega)]
 simp
theorem kb53 : FnOk Tryd.prog 53 (F53c B53) := ok53c B46 kb46 B53 fun k d log l r h => ⟨30, by
 unfold B53 at h
 split at h
 ·rename_i hq
  have hq' := hq
  obtain ⟨hd, hL, hn, hl, hs, hlt⟩ := hq
  obtain rfl := Option.some.inj h
  unfold m53c
  have key := rangeIx log 0 (fun n (_ : Unit) t => l53ca B46 30 k log n t d log l) (fun _ _ _ => True) (fun t _ _ => some (match (kz l).find? fun i => decide (t ≤ i) && (decide (((log.getD i 0).toNat : Int) = k) && fr (Dk d) log (kz l) i) with
   | some i => ((i : Int), true, d, log, l)
   | none => (0, false, d, log, l))) (fun n _ t x rest h3 h4 _ ih => ?_) (fun n _ _ => ?_) 30 () (by omega) trivial
  ·rw [key]
   unfold fnd
   simp only [Nat.zero_le, decide_true, Bool.true_and]
  ·show l53ca B46 30 k log (n + 1) (t : Int) d log l = _
   have e46 : B46 (t : Int) d log l = some (decide (t ∈ kz l) && fr (Dk d) log (kz l) t, d, log, l) := by
    unfold B46
    rw [if_pos ⟨hq', by omega, by omega⟩, Int.toNat_natCast]
   rw [l53ca, ixA h3, cond_true, ixB h3, chk_true, Int.toNat_natCast, h4, ixW h3 (by omega), find_from _ _ hs t, h4]
   have ih' := ih () trivial
   by_cases hx : (x.toNat : Int) = k
   ·rw [beq_iff_eq.2 hx, cond_true, e46, Option.bind_some, decide_eq_true hx, Bool.true_and]
    by_cases hc : t ∈ kz l ∧ fr (Dk d) log (kz l) t = true
    ·rw [if_pos hc, decide_eq_true hc.1, hc.2]; rfl
    ·rw [if_neg hc]
     have : (decide (t ∈ kz l) && fr (Dk d) log (kz l) t) = false := by
      rw [Bool.and_eq_false_iff, decide_eq_false_iff_not]
      by_cases h1 : t ∈ kz l
      ·right
       cases hf : fr (Dk d) log (kz l) t with
       | false => rfl
       | true => exact absurd ⟨h1, hf⟩ hc
      ·exact .inl h1
     simp only [this, cond_false]
     exact ih'
   ·rw [beq_eq_false_iff_ne.2 hx, cond_false, decide_eq_false hx, if_neg (by simp)]
    exact ih'
  ·show l53ca B46 30 k log (n + 1) (log.length : Int) d log l = _
   rw [l53ca, ixE, cond_false, find_past _ _ _ hlt]
 ·cases h⟩
def rmw (log : Wd) (S : List Nat) : Wd := S.map fun i => log.getD i 0
theorem rmw_mem {log : Wd} {S : List Nat} (h : ∀ k ∈ S, k < log.length) {x : UInt8} (hx : x ∈ rmw log S) : x ∈ log := by
 obtain ⟨i, hi, rfl⟩ := List.mem_map.1 hx
 exact getD_mem (h i hi)
section
variable {D : UInt8 → UInt8 → Bool}

theorem fnd_tk {log : Wd} {S : List Nat} (hs : S.Pairwise (· < ·)) {x : UInt8} (hx : x ∈ rmw log S → D x x = true) :
  (∀ i, fnd D log S (x.toNat : Int) = some i → i ∈ S ∧ tk D x (rmw log S) = some (rmw log (S.erase i))) ∧ (fnd D log S (x.toNat : Int) = none → tk D x (rmw log S) = none) := by
 have hxe : ∀ b : UInt8, ((b.toNat : Int) = (x.toNat : Int)) ↔ b = x := fun b => ⟨fun h => UInt8.toNat_inj.1 (by omega), fun h => by rw [h]⟩
 constructor
 ·intro i hi
  have h1 : i ∈ S := List.mem_of_find?_eq_some hi
  have h2 := List.find?_some hi
  simp only [Bool.and_eq_true, decide_eq_true_eq, hxe] at h2
  obtain ⟨h2, h3⟩ := h2
  have hxx := hx (List.mem_map.2 ⟨i, h1, h2⟩)
  refine ⟨h1, ?_⟩
  obtain ⟨u, v, rfl⟩ := List.append_of_mem h1
  have hp := List.pairwise_append.1 hs
  have hu : ∀ k ∈ u, k < i := fun k hk => hp.2.2 k hk i (by simp)
  have hiu : i ∉ u := fun h => by have := hu i h; omega
  have e1 : (u ++ i :: v).erase i = u ++ v := by
   rw [List.erase_append_right _ hiu, List.erase_cons_head]
  rw [e1]
  unfold rmw
  rw [List.map_append, List.map_cons, List.map_append, h2]
  refine tk_of _ _ fun z hz => ?_
  obtain ⟨k, hk, rfl⟩ := List.mem_map.1 hz
  have := List.all_eq_true.1 h3 k (by simp [hk])
  rw [decide_eq_true (hu k hk), Bool.true_and, h2] at this
  have hD : D (log.getD k 0) x = false := by simpa using this
  exact ⟨fun e => by (rw [e, hxx] at hD; cases hD), hD⟩
 ·intro hn
  cases ht : tk D x (rmw log S) with
  | none => rfl
  | some l' =>
   exfalso
   obtain ⟨u, v, e1, e2, e3⟩ := tk_some ht
   unfold rmw at e1
   obtain ⟨u', v', rfl, hu, hv⟩ := List.map_eq_append_iff.1 e1
   obtain ⟨i, v2, rfl, hi, rfl⟩ := List.map_eq_cons_iff.1 hv
   have := List.find?_eq_none.1 hn i (by simp)
   refine this ?_
   rw [Bool.and_eq_true, decide_eq_true_eq]
   refine ⟨by rw [hi], List.all_eq_true.2 fun k hk => ?_⟩
   have hp := List.pairwise_append.1 hs
   by_cases hki : k < i
   ·have hku : k ∈ u' := by
     rcases List.mem_append.1 hk with h | h
     ·exact h
     ·rcases List.mem_cons.1 h with h | h
      ·omega
      ·have := (List.pairwise_cons.1 hp.2.1).1 k h; omega
    have := (e3 (log.getD k 0) (by rw [← hu]; exact List.mem_map.2 ⟨k, hku, rfl⟩)).2
    rw [hi, this, Bool.and_false]; rfl
   ·rw [decide_eq_false hki]; rfl
def pick (D : UInt8 → UInt8 → Bool) (ks l : Wd) : Option (UInt8 × Wd) := ks.findSome? fun x => (tk D x l).map fun l' => (x, l')
def nf (D : UInt8 → UInt8 → Bool) (ks : Wd) : Nat → Wd → Wd
 | 0, _ => []
 | n + 1, l => match pick D ks l with
  | some (x, l') => x :: nf D ks n l'
  | none => []
theorem pick_some {ks l : Wd} {x : UInt8} {l' : Wd} (h : pick D ks l = some (x, l')) : x ∈ ks ∧ tk D x l = some l' := by
 obtain ⟨y, hy, h2⟩ := List.exists_of_findSome?_eq_some h
 obtain ⟨l2, h3, h4⟩ := Option.map_eq_some_iff.1 h2
 cases h4
 exact ⟨hy, h3⟩
theorem pick_any {ks : Wd} {x : UInt8} {l : Wd} (hx : x ∈ ks) : ∃ y l', pick D ks (x :: l) = some (y, l') := by
 cases h : pick D ks (x :: l) with
 | some p => exact ⟨p.1, p.2, rfl⟩
 | none =>
  have := List.findSome?_eq_none_iff.1 h x hx
  simp [tk] at this
end

theorem rmw_length (log : Wd) (S : List Nat) : (rmw log S).length = S.length := List.length_map _
theorem in43_pick {d : List Int} {log : Wd} {S : List Nat} (hv : Vp d log (Pl' S)) (hD : ∀ x ∈ log, Dk d x x = true) :
  ∀ (n : Nat) (c : Nat), c ≤ 103 → 103 - c < n → 97 ≤ c → (∃ p, ((abc.drop (c - 97)).findSome? fun x => (tk (Dk d) x (rmw log S)).map fun l' => (x, l')) = some p) →
   ∃ x i, in43 B53 d log (Pl' S) n (c : Int) = some ((x.toNat : Int), ((i : Nat) : Int)) ∧ isL x ∧ i ∈ S ∧ tk (Dk d) x (rmw log S) = some (rmw log (S.erase i)) ∧ ((abc.drop (c - 97)).findSome? fun x => (tk (Dk d) x (rmw log S)).map fun l' => (x, l')) = some (x, rmw log (S.erase i))
 | 0, c, _, h, _, _ => by omega
 | n + 1, c, h1, h2, h3, ⟨p, hp⟩ => by
  have hs : S.Pairwise (· < ·) := by have := hv.2.2.2.2.1; rwa [kz_Pl] at this
  by_cases hc : c = 103
  ·subst hc; simp [abc] at hp
  ·obtain ⟨x, hx, hxn, hdrop⟩ : ∃ x : UInt8, isL x ∧ x.toNat = c ∧ abc.drop (c - 97) = x :: abc.drop (c + 1 - 97) := by
    have : c = 97 ∨ c = 98 ∨ c = 99 ∨ c = 100 ∨ c = 101 ∨ c = 102 := by omega
    rcases this with rfl | rfl | rfl | rfl | rfl | rfl
    ·exact ⟨97, by decide, rfl, rfl⟩
    ·exact ⟨98, by decide, rfl, rfl⟩
    ·exact ⟨99, by decide, rfl, rfl⟩
    ·exact ⟨100, by decide, rfl, rfl⟩
    ·exact ⟨101, by decide, rfl, rfl⟩
    ·exact ⟨102, by decide, rfl, rfl⟩
   have hlt : ∀ k ∈ S, k < log.length := by have := hv.2.2.2.2.2; rwa [kz_Pl] at this
   obtain ⟨f1, f2⟩ := fnd_tk (D := Dk d) (log := log) hs (x := x) fun hm => hD x (rmw_mem hlt hm)
   rw [hdrop, List.findSome?_cons] at hp ⊢
   simp only [in43]
   have e53 : B53 (c : Int) d log (Pl' S) = some (match fnd (Dk d) log S (x.toNat : Int) with
    | some i => ((i : Int), true, d, log, Pl' S)
    | none => (0, false, d, log, Pl' S)) := by
    unfold B53; rw [if_pos hv, kz_Pl, hxn]
   rw [e53]
   cases hf : fnd (Dk d) log S (x.toNat : Int) with
   | some i =>
    obtain ⟨g1, g2⟩ := f1 i hf
    refine ⟨x, i, ?_, hx, g1, g2, ?_⟩
    ·simp only
     rw [if_pos ⟨trivial, by omega⟩, cond_true, hxn]
    ·rw [g2]; rfl
   | none =>
    have g := f2 hf
    rw [g] at hp ⊢
    simp only [Option.map_none] at hp ⊢
    rw [if_pos ⟨trivial, by omega⟩, cond_false]
    exact in43_pick hv hD n (c + 1) (by omega) (by omega) (by omega) ⟨p, hp⟩
theorem Vp.erase {d : List Int} {log : Wd} {S : List Nat} (h : Vp d log (Pl' S)) (i : Nat) : Vp d log (Pl' (S.erase i)) := by
 obtain ⟨a, b, c, e, f, g⟩ := h
 rw [kz_Pl] at f g
 refine ⟨a, b, c, by rw [kz_Pl], ?_, ?_⟩
 ·rw [kz_Pl]; exact f.sublist (List.erase_sublist)
 ·rw [kz_Pl]; exact fun k hk => g k (List.mem_of_mem_erase hk)
theorem isL_abc {b : UInt8} (h : isL b) : b ∈ abc := by
 have h1 : b.toNat = 97 ∨ b.toNat = 98 ∨ b.toNat = 99 ∨ b.toNat = 100 ∨ b.toNat = 101 ∨ b.toNat = 102 := by unfold isL at h; omega
 have e : ∀ c : UInt8, b.toNat = c.toNat → b = c := fun c => UInt8.toNat_inj.1
 rcases h1 with h | h | h | h | h | h
 ·rw [e 97 h]; decide
 ·rw [e 98 h]; decide
 ·rw [e 99 h]; decide
 ·rw [e 100 h]; decide
 ·rw [e 101 h]; decide
 ·rw [e 102 h]; decide
theorem fs43_nf {d : List Int} {log : Wd} (hD : ∀ x ∈ log, Dk d x x = true) : ∀ (n : Nat) (S : List Nat) (acc : Wd), S.length < n → Vp d log (Pl' S) →
  fs43 B53 d log n (Pl' S) acc = some (acc ++ nf (Dk d) abc S.length (rmw log S))
 | 0, S, acc, h, _ => by omega
 | n + 1, S, acc, h, hv => by
  simp only [fs43]
  cases S with
  | nil => rw [if_pos (show (Pl' []).length = 0 from rfl)]; simp [nf]
  | cons j S =>
   rw [if_neg (by simp [Pl'])]
   have hj : isL (log.getD j 0) := hv.2.1 _ (getD_mem (hv.2.2.2.2.2 j (by rw [kz_Pl]; simp)))
   obtain ⟨y, l', hp⟩ := pick_any (D := Dk d) (l := rmw log S) (isL_abc hj)
   obtain ⟨x, i, h1, h2, h3, h4, h5⟩ := in43_pick hv hD 300 97 (by omega) (by omega) (by omega) ⟨(y, l'), hp⟩
   rw [show ((97 : Nat) : Int) = 97 from rfl] at h1
   rw [h1]
   have hlen : ((j :: S).erase i).length + 1 = (j :: S).length := by
    have := List.length_pos_of_mem h3
    rw [List.length_erase_of_mem h3]; omega
   have e1 : mdel (kt := .int .i64) (vt := .bool) (Pl' (j :: S)) ((i : Nat) : Int) = Pl' ((j :: S).erase i) := mdel_Pl i _
   simp only [e1]
   rw [if_pos (by unfold Pl'; rw [List.length_map, List.length_map]; omega), fs43_nf hD n _ _ (by simp only [List.length_cons] at hlen h ⊢; omega) (hv.erase i)]
   have e2 : pick (Dk d) abc (rmw log (j :: S)) = some (x, rmw log ((j :: S).erase i)) := h5
   rw [show (j :: S).length = ((j :: S).erase i).length + 1 from hlen.symm]
   simp only [nf, e2, List.append_assoc, List.singleton_append]
   rw [Int.toNat_natCast, UInt8.ofNat_toNat]
theorem asc_len : ∀ (S : List Nat) (a n : Nat), (∀ k ∈ S, a ≤ k ∧ k < n) → S.Pairwise (· < ·) → S.length ≤ n - a
 | [], a, n, _, _ => by simp
 | j :: S, a, n, h, hs => by
  obtain ⟨h1, h2⟩ := List.pairwise_cons.1 hs
  have hj := h j (by simp)
  have := asc_len S (j + 1) n (fun k hk => ⟨by have := h1 k hk; omega, (h k (by simp [hk])).2⟩) h2
  simp only [List.length_cons]; omega
theorem A43_nf {d : List Int} {log : Wd} (hD : ∀ x ∈ log, Dk d x x = true) {S : List Nat} (hv : Vp d log (Pl' S)) :
  A43 B53 d log (Pl' S) = some (nf (Dk d) abc S.length (rmw log S), d, log, []) := by
 have hlen : S.length ≤ 20 := by
  have h1 := hv.2.2.1
  have h2 := hv.2.2.2.2.1
  have h3 := hv.2.2.2.2.2
  rw [kz_Pl] at h2 h3
  have := asc_len S 0 log.length (fun k hk => ⟨Nat.zero_le k, h3 k hk⟩) h2
  omega
 unfold A43
 rw [fs43_nf hD 1000 S [] (by omega) hv, List.nil_append]; rfl
def B61 : List Int → Wd → Lf → Option (List Int × Wd × Lf) := fun d log _ => if log.length ≤ 20 then some (d, log, Pl' (List.range log.length)) else none
theorem kb61 : FnOk Tryd.prog 61 (F61c B61) := ok61c B61 fun d log l r h => ⟨30, by
 unfold B61 at h
 split at h
 ·rename_i hl
  obtain rfl := Option.some.inj h
  unfold m61c
  refine rangeIx log 0 (fun n (s : Lf) t => l61ca 30 d log n t s) (fun t _ s => s = Pl' (List.range t)) (fun _ _ _ => some (d, log, Pl' (List.range log.length))) (fun n s t x rest h3 h4 hI ih => ?_) (fun n s hI => ?_) 30 [] (by omega) rfl
  ·show l61ca 30 d log (n + 1) (t : Int) s = _
   subst hI
   rw [l61ca, ixA h3, cond_true, ixW h3 (by omega), mput_Pl t _ (by simp), ← List.range_succ]
   exact ih _ rfl
  ·show l61ca 30 d log (n + 1) (log.length : Int) s = _
   subst hI
   rw [l61ca, ixE, cond_false]
 ·cases h⟩
def B42 : List Int → Wd → Option (Lf × List Int × Wd) := fun d log => if log.length ≤ 20 then some (Pl' (List.range log.length), d, log) else none
theorem kb42 : FnOk Tryd.prog 42 (F42 B42) := ok42 B61 kb61 B42 fun d log r h => ⟨0, by
 unfold B42 at h
 split at h
 ·rename_i hl
  obtain rfl := Option.some.inj h
  unfold m42
  show (B61 d log []).bind _ = _
  unfold B61
  rw [if_pos hl]; rfl
 ·cases h⟩
theorem rmw_range (log : Wd) : rmw log (List.range log.length) = log := by
 unfold rmw
 apply List.ext_getElem
 ·simp
 ·intro i h1 h2
  rw [List.getElem_map, List.getElem_range, List.getD_eq_getElem?_getD, List.getElem?_eq_getElem h2]; rfl
theorem Vp_range {d : List Int} {log : Wd} (h1 : okD d) (h2 : ∀ b ∈ log, isL b) (h3 : log.length ≤ 20) : Vp d log (Pl' (List.range log.length)) := by
 refine ⟨h1, h2, h3, by rw [kz_Pl], ?_, ?_⟩
 ·rw [kz_Pl]; exact List.pairwise_lt_range
 ·rw [kz_Pl]; exact fun k hk => List.mem_range.1 hk
theorem errL1_zero {k : Int} {l : Wd} (h : errL1 k l = 0) : l.length ≤ 14 ∧ ∀ b ∈ l, 97 ≤ (b.toNat : Int) ∧ (b.toNat : Int) ≤ 97 + k - 1 := by
 unfold errL1 at h
 split at h
 ·cases h
 ·rename_i h1
  split at h
  ·rename_i h2
   refine ⟨by omega, fun b hb => ?_⟩
   have := List.all_eq_true.1 h2 b hb
   simpa using this
  ·cases h
theorem Dk_refl {o : Of} (h : errO o = 0) {x : UInt8} (hx : 97 ≤ (x.toNat : Int) ∧ (x.toNat : Int) ≤ 97 + o.1 - 1) : Dk (deskO o) x x = true := by
 rw [Dk_deskO h (by omega) (by omega)]
 exact (Do_bnd h).refl x
theorem abc_step {c : Nat} (h0 : 97 ≤ c) (h1 : c < 103) : ∃ x : UInt8, isL x ∧ x.toNat = c ∧ abc.drop (c - 97) = x :: abc.drop (c + 1 - 97) := by
 have : c = 97 ∨ c = 98 ∨ c = 99 ∨ c = 100 ∨ c = 101 ∨ c = 102 := by omega
 rcases this with rfl | rfl | rfl | rfl | rfl | rfl
 ·exact ⟨97, by decide, rfl, rfl⟩
 ·exact ⟨98, by decide, rfl, rfl⟩
 ·exact ⟨99, by decide, rfl, rfl⟩
 ·exact ⟨100, by decide, rfl, rfl⟩
 ·exact ⟨101, by decide, rfl, rfl⟩
 ·exact ⟨102, by decide, rfl, rfl⟩
end Go.Proofs.YtmpbbkldopfkpaaDoor
