/-
 Counts as numbers of logs; offices with more free pairs.
-/
import Derived.Test.YtmpbbkldopfkpaaDoorL11
import Derived.Test.YtmpbbkldopfkpaaDoorL7
namespace Go.Proofs.YtmpbbkldopfkpaaDoor
open Go.RowKit
set_option linter.unusedVariables false

theorem sum_add {α : Type} (l : List α) (f g : α → Nat) : (l.map fun x => f x + g x).sum = (l.map f).sum + (l.map g).sum := by
 induction l with
 | nil => rfl
 | cons x l ih => simp only [List.map_cons, List.sum_cons, ih]; omega
theorem sum_swap (S : List Nat) (ks : Wd) (g : Nat → UInt8 → Nat) : (S.map fun i => (ks.map fun x => g i x).sum).sum = (ks.map fun x => (S.map fun i => g i x).sum).sum := by
 induction S with
 | nil =>
  have : ∀ l : Wd, (l.map fun _ => 0).sum = 0 := fun l => by induction l with | nil => rfl | cons a l ih => simpa using ih
  simpa using (this ks).symm
 | cons i S ih =>
  simp only [List.map_cons, List.sum_cons, ih]
  exact (sum_add ks (fun x => g i x) fun x => (S.map fun i => g i x).sum).symm
theorem sum_one (ks : Wd) (hk : ks.Nodup) (b : UInt8) (n : Nat) (hb : b ∈ ks) : (ks.map fun x => if b = x then n else 0).sum = n := by
 have none : ∀ l : Wd, b ∉ l → (l.map fun x => if b = x then n else 0).sum = 0 := by
  intro l
  induction l with
  | nil => intro _; rfl
  | cons z l ih => intro hz; rw [List.map_cons, List.sum_cons, if_neg fun e => hz (by simp [e]), ih fun hm => hz (by simp [hm])]
 induction ks with
 | nil => cases hb
 | cons y l ih =>
  obtain ⟨n1, n2⟩ := List.nodup_cons.1 hk
  rw [List.map_cons, List.sum_cons]
  by_cases hy : b = y
  ·subst hy; rw [if_pos rfl, none l n1]; omega
  ·rw [if_neg hy, Nat.zero_add]
   rcases List.mem_cons.1 hb with e | e
   ·exact absurd e hy
   ·exact ih n2 e
theorem sum_find (S : List Nat) (P : Nat → Bool) (f : Nat → Nat) (hu : S.Pairwise fun i j => ¬ (P i = true ∧ P j = true)) : (S.map fun i => if P i = true then f i else 0).sum = match S.find? P with
  | some i => f i
  | none => 0 := by
 induction S with
 | nil => rfl
 | cons i S ih =>
  obtain ⟨h1, h2⟩ := List.pairwise_cons.1 hu
  rw [List.map_cons, List.sum_cons, List.find?_cons, ih h2]
  cases hP : P i with
  | true =>
   have hn : S.find? P = none := List.find?_eq_none.2 fun j hj hPj => h1 j hj ⟨hP, hPj⟩
   simp [hn]
  | false => simp
theorem cnt_Fp {D : UInt8 → UInt8 → Bool} {log : Wd} (hR : ∀ x ∈ log, D x x = true) (hL : ∀ b ∈ log, isL b) : ∀ (n : Nat) (S : List Nat), S.length = n → S.Pairwise (· < ·) → (∀ k ∈ S, k < log.length) → cntW D abc n (rmw log S) = Fp D log n S
 | 0, S, _, _, _ => rfl
 | n + 1, S, hlen, hs, hlt => by
  simp only [cntW, Fp]
  have e1 : ∀ i ∈ S, (if fr D log S i = true then Fp D log n (S.erase i) else 0) = (abc.map fun x => if (decide (((log.getD i 0).toNat : Int) = (x.toNat : Int)) && fr D log S i) = true then Fp D log n (S.erase i) else 0).sum := fun i hi => by
   cases hf : fr D log S i with
   | false => simp [abc]
   | true =>
    have := sum_one abc (by decide) (log.getD i 0) (Fp D log n (S.erase i)) (isL_abc (hL _ (getD_mem (hlt i hi))))
    rw [if_pos rfl]
    refine this.symm.trans ?_
    congr 1
    refine List.map_congr_left fun x _ => ?_
    rw [Bool.and_true]
    by_cases hx : log.getD i 0 = x
    ·rw [if_pos hx, if_pos (decide_eq_true (by rw [hx]))]
    ·rw [if_neg hx, if_neg (by rw [decide_eq_false fun e => hx (UInt8.toNat_inj.1 (by omega))]; simp)]
  rw [List.map_congr_left e1, sum_swap]
  congr 1
  refine List.map_congr_left fun x hx => ?_
  rw [sum_find S (fun i => decide (((log.getD i 0).toNat : Int) = (x.toNat : Int)) && fr D log S i) (fun i => Fp D log n (S.erase i)) ?_]
  ·obtain ⟨f1, f2⟩ := fnd_tk (D := D) (log := log) hs (x := x) fun hm => hR x (rmw_mem hlt hm)
   show _ = match fnd D log S (x.toNat : Int) with
    | some i => Fp D log n (S.erase i)
    | none => 0
   cases hf : fnd D log S (x.toNat : Int) with
   | some i =>
    obtain ⟨g1, g2⟩ := f1 i hf
    rw [g2]
    exact cnt_Fp hR hL n (S.erase i) (by rw [List.length_erase_of_mem g1]; omega) (hs.sublist List.erase_sublist) fun k hk => hlt k (List.mem_of_mem_erase hk)
   | none => rw [f2 hf]
  ·refine List.Pairwise.imp_of_mem (R := (· < ·)) (fun {i j} hi hj hij => ?_) hs
   rintro ⟨h1, h2⟩
   rw [Bool.and_eq_true, decide_eq_true_iff] at h1 h2
   have := List.all_eq_true.1 h2.2 i hi
   have hsame : log.getD i 0 = log.getD j 0 := UInt8.toNat_inj.1 (by omega)
   rw [decide_eq_true hij, Bool.true_and, hsame, hR _ (getD_mem (hlt j hj))] at this
   cases this
theorem Fp_cnt {D : UInt8 → UInt8 → Bool} {log : Wd} (hR : ∀ x ∈ log, D x x = true) (hL : ∀ b ∈ log, isL b) : Fp D log log.length (List.range log.length) = (lin D abc log.length log).length := by
 rw [lin_len, ← cnt_Fp hR hL _ _ List.length_range List.pairwise_lt_range fun k hk => List.mem_range.1 hk, rmw_range]
def inK (k : Nat) (x : UInt8) : Prop := 97 ≤ x.toNat ∧ x.toNat < 97 + k
instance (k : Nat) (x : UInt8) : Decidable (inK k x) := by unfold inK; infer_instance
theorem kOf_le (K : Nat) : 2 ≤ kOf K ∧ kOf K ≤ 4 := by unfold kOf; omega
theorem Ls_pst (K F : Nat) (p : List Int) (m : Nat) : Ls (offN K F) (pst (kOf K) p m) := fun b hb => by
 have hk := kOf_le K
 obtain ⟨z, _, rfl⟩ := List.mem_map.1 hb
 have hlt : z.toNat % kOf K < kOf K := Nat.mod_lt _ (by omega)
 unfold ltr
 rw [UInt8.toNat_ofNat', Nat.mod_eq_of_lt (by omega)]
 show 97 ≤ ((97 + z.toNat % kOf K : Nat) : Int) ∧ ((97 + z.toNat % kOf K : Nat) : Int) ≤ 97 + (kOf K : Int) - 1
 omega
theorem Ls.eqv {o : Of} (h0 : errO o = 0) {a b : Wd} (ha : Ls o a) (h : Eqv (Do o) a b) : Ls o b := fun x hx => ha x ((h.mem (Do_bnd h0)).2 hx)
theorem pst_len (k : Nat) (p : List Int) (m : Nat) : (pst k p m).length ≤ m := by
 unfold pst
 rw [List.length_map]
 exact List.length_take_le _ _
theorem errA_ok {o : Of} (h0 : errO o = 0) : ∀ {ls : List Wd}, (∀ l ∈ ls, l.length ≤ 14 ∧ Ls o l) → errA o ls = 0 := by
 intro ls h
 unfold errA
 rw [if_pos h0]
 induction ls with
 | nil => rfl
 | cons l r ih =>
  obtain ⟨a, b⟩ := h l (by simp)
  have e : errL1 o.1 l = 0 := by
   unfold errL1
   rw [if_neg (by omega), if_pos (show okLg o.1 l = true from List.all_eq_true.2 fun x hx => decide_eq_true (b x hx))]
  unfold errL
  rw [if_pos e]
  exact ih fun x hx => h x (by simp [hx])
def u8z (z : Int) : Prop := 0 ≤ z ∧ z < 256
instance (z : Int) : Decidable (u8z z) := by unfold u8z; infer_instance
def u8l (p : List Int) : Prop := (∀ z ∈ p, u8z z) ∧ p.length ≤ maxLen
instance (p : List Int) : Decidable (u8l p) := by unfold u8l; infer_instance
theorem B26_of {d : Dsq} (h1 : u8z d.1) (h2 : u8z d.2.1) : B26 d = some (offN d.1.toNat d.2.1.toNat) := by
 unfold B26; rw [if_pos ⟨h1, h2⟩]
theorem B27_of (K F : Nat) {p : List Int} (h : u8l p) {m : Nat} (hm : m ≤ 1000) : B27 p (offN K F) (m : Int) = some (pst (kOf K) p m) := by
 have hk := kOf_le K
 have e : (offN K F).1 = (kOf K : Int) := rfl
 unfold B27
 rw [if_pos ⟨by rw [e]; omega, h.1, ⟨by omega, by omega⟩, h.2⟩, e, Int.toNat_natCast, Int.toNat_natCast]
end Go.Proofs.YtmpbbkldopfkpaaDoor
