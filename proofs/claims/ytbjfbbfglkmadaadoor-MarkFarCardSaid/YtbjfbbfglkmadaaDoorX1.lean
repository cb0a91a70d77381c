/-
 Codes by numbers, sets of customers: what the laws reckon for themselves.
-/
import Derived.Test.YtbjfbbfglkmadaaDoorM11
import Derived.Test.YtbjfbbfglkmadaaDoorQX
namespace Go.Proofs.YtbjfbbfglkmadaaDoor
open Go.RowKit
set_option linter.unusedVariables false

theorem rangeE (s n : Nat) : List.range' s (n + 1) = List.range' s n ++ [s + n] := by rw [List.range'_concat]; simp
theorem cdE_of {c : Cd} (h1 : 2 ≤ c.1 ∧ c.1 ≤ 4) (h2 : 0 < c.2.1.length ∧ c.2.1.length ≤ 10) (h3 : 1 ≤ sz c ∧ sz c ≤ 8) (h4 : ∀ w ∈ c.2.1, w.length = sz c) (h5 : ∀ w ∈ c.2.1, ∀ m ∈ w, 0 ≤ m ∧ m < c.1) : cdE c = 0 := by
 have a1 : (c.2.1.any fun w => !decide (w.length = sz c)) = false := List.any_eq_false.2 fun w hw => by simp [h4 w hw]
 have a2 : (c.2.1.any fun w => w.any (outM c.1)) = false := List.any_eq_false.2 fun w hw => by
  have : w.any (outM c.1) = false := List.any_eq_false.2 fun m hm => by
   have := h5 w hw m hm
   simp only [outM, Bool.not_eq_true, Bool.not_eq_false', dtq]
   rw [w64_small (by omega)]; omega
  rw [this]; decide
 rw [cdE, decide_eq_true h1, decide_eq_false (show ¬ c.2.1.length = 0 by omega), decide_eq_false (show ¬ 10 < c.2.1.length by omega), decide_eq_true h3, a1, a2]; rfl
abbrev Sh := Int × Int × List (List Int) × Unit
def okB4 (w : List Int) : Bool := decide (w.length = 4) && w.all fun m => decide (0 ≤ m ∧ m ≤ 255)
theorem okB4_at {w : List Int} (h : okB4 w = true) : w.length = 4 ∧ ∀ m ∈ w, 0 ≤ m ∧ m ≤ 255 := by simpa [okB4] using h
def okSh (s : Sh) : Bool := decide (0 ≤ s.1 ∧ s.1 ≤ 255) && decide (0 ≤ s.2.1 ∧ s.2.1 ≤ 255) && s.2.2.1.all okB4
theorem okSh_at {s : Sh} (h : okSh s = true) : (0 ≤ s.1 ∧ s.1 ≤ 255) ∧ (0 ≤ s.2.1 ∧ s.2.1 ≤ 255) ∧ ∀ w ∈ s.2.2.1, okB4 w = true := by
 simp only [okSh, bae, dtq, List.all_eq_true] at h; exact ⟨h.1.1, h.1.2, h.2⟩
def mM (s : Sh) : Int := 2 + s.1 % 2
def pL (s : Sh) : Nat := 1 + (s.2.1 % 4).toNat
def row (s : Sh) (w : List Int) (n : Nat) : List Int := (List.range' 0 n).map fun k => w.getD k 0 % mM s
def rws (s : Sh) (t : Nat) : List (List Int) := (s.2.2.1.take t).map fun w => row s w (pL s)
def ad0 (s : Sh) (l : List (List Int)) : List (List Int) := match l with
 | [] => [List.replicate (pL s) 0]
 | x :: r => x :: r
def mdC (s : Sh) : Cd := (mM s, ad0 s (rws s 5), ())
def B40 (s : Sh) : Option (Int × List (List Int)) := if okSh s = true then some (mM s, ad0 s (rws s 5)) else none
theorem tmod_emod {a b : Int} (ha : 0 ≤ a) : Int.tmod a b = a % b := Int.tmod_eq_emod_of_nonneg ha
theorem KB40 : FnOk Tryd.prog 40 (F40 B40) := ok40 B40 fun s r h => ⟨11, by
 simp only [B40] at h
 split at h
 ·rename_i hs
  obtain ⟨h1, h2, h3⟩ := okSh_at hs
  rw [← h, m40]
  have eM : w64 (2 + Int.tmod (w64 s.1) 2) = mM s := by
   rw [w64_small (x := s.1) (by omega), tmod_emod (by omega), w64_small (by omega)]; rfl
  have eP : w64 (1 + Int.tmod (w64 s.2.1) 4) = (pL s : Int) := by
   rw [w64_small (x := s.2.1) (by omega), tmod_emod (by omega), w64_small (by omega), pL]; omega
  have hP : 1 ≤ pL s ∧ pL s ≤ 4 := by unfold pL; omega
  have hM : 2 ≤ mM s ∧ mM s ≤ 3 := by unfold mM; omega
  have fin : ∀ o : List (List Int), o.length ≤ 5 → (cond ((o.length : Int) == 0) (chk (mkOk (pL s : Int) (pL s : Int) 8) (chk (small (o.length + 1) 24) (some (mM s, o ++ ([List.replicate ((pL s : Int).toNat) 0] : List (List Int)))))) (some (mM s, o))) = some (mM s, ad0 s o) := fun o ho => by
   rw [lenEq0]
   cases o with
   | nil =>
    rw [chk_of (by simp [mkOk]; omega), chk_of (small_of (by simp) (by decide)), Int.toNat_natCast]; rfl
   | cons x r => rfl
  refine countP' 0 (min 5 (s.2.2.1.length : Int)) (by omega) (fun n o t => l40a 11 s n t o) (fun t o => o = rws s t.toNat) (fun r => r = some (mM s, ad0 s (rws s 5))) (fun n o t a b hI ih => ?_) (fun n o hI => ?_) 11 [] (by omega) rfl
  ·subst hI
   obtain ⟨k, rfl⟩ : ∃ j : Nat, t = j := ⟨t.toNat, by omega⟩
   have hk : k < s.2.2.1.length := by omega
   have hw := h3 _ (getD_mem (d := [0, 0, 0, 0]) hk)
   obtain ⟨w1, w2⟩ := okB4_at hw
   have hlen : (rws s k).length = k := by simp [rws]; omega
   simp only [l40a, ixA hk, decide_eq_true (show (k : Int) < 5 by omega), cond_true, Int.toNat_natCast, eP, eM]
   refine countP' 0 (pL s : Int) (by omega) (fun n' w j => l40b 11 s (k : Int) (rws s k) (fun y0 y1 => l40a 11 s n y0 y1) n' j w) (fun j w => w = row s (s.2.2.1.getD k [0, 0, 0, 0]) j.toNat) (fun r => r = some (mM s, ad0 s (rws s 5))) (fun n' w j a2 b2 hI' ih' => ?_) (fun n' w hI' => ?_) 11 [] (by omega) rfl
   ·subst hI'
    obtain ⟨j, rfl⟩ : ∃ q : Nat, j = q := ⟨j.toNat, by omega⟩
    have hm := w2 _ (getD_mem (l := s.2.2.1.getD k [0, 0, 0, 0]) (d := 0) (show j < _ by omega))
    have hrl : (row s (s.2.2.1.getD k [0, 0, 0, 0]) j).length = j := by simp [row]
    simp only [l40b, eP, eM, decide_eq_true b2, cond_true, ixB hk, chk_true, Int.toNat_natCast]
    rw [chk_dec (by omega), chk_dec (by omega), chk_of (small_of (by omega) (by decide)), w64_small (x := (j : Int) + 1) (by omega), w64_small (x := ((s.2.2.1.getD k [0, 0, 0, 0]).getD j 0)) (by omega), tmod_emod hm.1]
    exact ih' _ (by rw [show ((j : Int) + 1).toNat = j + 1 by omega, row, row, rangeE, List.map_append]; simp)
   ·subst hI'
    simp only [l40b, eP, decide_eq_false (Int.lt_irrefl _), cond_false, Int.toNat_natCast]
    rw [chk_of (small_of (by omega) (by decide)), w64_small (by omega)]
    refine ih _ ?_
    rw [show ((k : Int) + 1).toNat = k + 1 by omega, rws, rws, take_succ' hk rfl, List.map_append]; rfl
  ·subst hI
   have hlen : (rws s (min 5 (s.2.2.1.length : Int)).toNat).length ≤ 5 := by simp [rws]; omega
   have hr : rws s (min 5 (s.2.2.1.length : Int)).toNat = rws s 5 := by
    unfold rws
    congr 1
    by_cases q : s.2.2.1.length ≤ 5
    ·rw [List.take_of_length_le q, List.take_of_length_le (by omega)]
    ·rw [show (min 5 (s.2.2.1.length : Int)).toNat = 5 by omega]
   rw [hr] at hlen ⊢
   simp only [l40a, eP, eM]
   rw [fin _ hlen]
   by_cases q : min 5 (s.2.2.1.length : Int) < (s.2.2.1.length : Int)
   ·rw [decide_eq_true q, decide_eq_false (show ¬ min 5 (s.2.2.1.length : Int) < 5 by omega)]; rfl
   ·rw [decide_eq_false q]; rfl
 ·cases h⟩
theorem mdC_ok {s : Sh} (hs : okSh s = true) : cdE (mdC s) = 0 ∧ smB (mdC s) = true ∧ (1 ≤ (mdC s).2.1.length ∧ (mdC s).2.1.length ≤ 5) ∧ sz (mdC s) = pL s ∧ (2 ≤ (mdC s).1 ∧ (mdC s).1 ≤ 3) ∧ (1 ≤ pL s ∧ pL s ≤ 4) := by
 obtain ⟨h1, h2, h3⟩ := okSh_at hs
 have hP : 1 ≤ pL s ∧ pL s ≤ 4 := by unfold pL; omega
 have hM : 2 ≤ mM s ∧ mM s ≤ 3 := by unfold mM; omega
 have hr : ∀ w ∈ rws s 5, w.length = pL s ∧ ∀ m ∈ w, 0 ≤ m ∧ m < mM s := fun w hw => by
  obtain ⟨v, _, rfl⟩ := List.mem_map.1 hw
  refine ⟨by simp [row], fun m hm => ?_⟩
  obtain ⟨k, _, rfl⟩ := List.mem_map.1 hm
  exact ⟨Int.emod_nonneg _ (by omega), Int.emod_lt_of_pos _ (by omega)⟩
 have hrl : (rws s 5).length ≤ 5 := by simp [rws]; omega
 have ha : ∀ w ∈ ad0 s (rws s 5), w.length = pL s ∧ ∀ m ∈ w, 0 ≤ m ∧ m < mM s := fun w hw => by
  cases e : rws s 5 with
  | nil =>
   rw [e] at hw
   rw [List.mem_singleton.1 hw]
   refine ⟨by simp, fun m hm => ?_⟩
   rw [(List.mem_replicate.1 hm).2]; omega
  | cons x r => rw [e] at hw; exact hr w (by rw [e]; exact hw)
 have hal : 1 ≤ (ad0 s (rws s 5)).length ∧ (ad0 s (rws s 5)).length ≤ 5 := by
  cases e : rws s 5 with
  | nil => simp [ad0]
  | cons x r => rw [e] at hrl; exact ⟨by simp [ad0], hrl⟩
 have hsz : sz (mdC s) = pL s := (ha _ (getD_mem (l := ad0 s (rws s 5)) (d := []) (by omega))).1
 refine ⟨cdE_of ⟨hM.1, show mM s ≤ 4 by omega⟩ ⟨show 0 < (ad0 s (rws s 5)).length by omega, show (ad0 s (rws s 5)).length ≤ 10 by omega⟩ (by omega) (fun w hw => by rw [hsz]; exact (ha w hw).1) fun w hw => (ha w hw).2, ?_, hal, hsz, hM, hP⟩
 simp only [smB, bae, dtq, List.all_eq_true]
 exact ⟨show (ad0 s (rws s 5)).length ≤ 1000 by omega, fun w hw => by have := (ha w hw).1; omega⟩
end Go.Proofs.YtbjfbbfglkmadaaDoor
