/-
 What weighings show is a code of three marks: plans by numbers, and the whole.
-/
import Derived.Test.YtfopcfnggdonkaaGreatDoorT2
import Derived.Test.YtfopcfnggdonkaaGreatDoorWTL
namespace Go.Proofs.YtfopcfnggdonkaaGreatDoor
open Go.Proofs.Tryz
open Go.RowKit
set_option linter.unusedVariables false
set_option linter.unusedSectionVars false
def O7 (A B s : Int) (w : Wg) : Wg := cond (s == A) w (cond (s == B) w (cond (decide ((w.1.length : Int) < 2)) ([gI A s, imax A s], w.2) (w.1, [gI B s, imax B s], w.2.2)))
def alJ (A B : Int) : Wg := O7 A B 3 (O7 A B 2 (O7 A B 1 (O7 A B 0 ([A], [B], ()))))
def EL (q : Nat) (w : Wg) : Bool := decide (zX (q : Int) w = 0) && decide (w.1.length <= 1000) && decide (w.2.1.length <= 1000)
theorem aiP {q : Nat} {w : Wg} (h : EL q w = true) : zX (q : Int) w = 0 /\ w.1.length <= 1000 /\ w.2.1.length <= 1000 := by
 simpa [EL, and_assoc] using h
theorem aHH : ∀ q : Nat, q < 5 -> 3 <= q -> ∀ a : Nat, a < q -> ∀ k : Nat, k < q - 1 -> EL q ([(a : Int)], [Int.tmod ((a : Int) + 1 + (k : Int)) (q : Int)], ()) = true := by decide +kernel
theorem aHI : ∀ a : Nat, a < 4 -> ∀ k : Nat, k < 3 -> EL 4 (alJ (a : Int) (Int.tmod ((a : Int) + 1 + (k : Int)) ((4 : Nat) : Int))) = true := by decide +kernel
theorem aHG : ∀ q : Nat, q < 5 -> 3 <= q -> EL q ([0], [1], ()) = true := by decide +kernel
theorem amB {q : Int} : ∀ {P : List Wg}, (∀ w ∈ P, zX q w = 0) -> KL q P = 0
 | [], _ => rfl
 | w :: r, h => by
  rw [KL, h w (by simp), amB fun v hv => h v (by simp [hv])]; rfl
theorem ai2 {q : Nat} (hq : q = 3 \/ q = 4) {P : List Wg} (h : ∀ w ∈ P, EL q w = true) (h1 : 1 <= P.length) (h3 : P.length <= 3) : XT q P :=
 ⟨hq, by
  rw [qE, if_neg (by rcases hq with h | h <;> omega), if_neg (by omega)]
  exact amB fun w hw => (aiP (h w hw)).1, ⟨by omega, fun w hw => (aiP (h w hw)).2⟩, h1⟩
theorem Kw {x : Int} {k : Nat} (h0 : 0 <= x) : Int.tmod x (k : Int) = ((x.toNat % k : Nat) : Int) := by
 obtain ⟨n, rfl⟩ := Int.eq_ofNat_of_zero_le h0
 rw [<- Int.ofNat_tmod, Int.toNat_natCast]
def zU (z : Int) : Prop := 0 <= z /\ z <= 255
def Kz (p : List (List Int)) : Prop := (∀ l ∈ p, l.length = 4 /\ ∀ z ∈ l, zU z) /\ p.length <= maxLen
theorem al2 {l : List Int} (h : ∀ z ∈ l, zU z) (j : Nat) : zU (l.getD j 0) := by
 rw [List.getD_eq_getElem?_getD]
 cases e : l[j]? with
 | none => exact ⟨by decide, by decide⟩
 | some x => exact h x (List.mem_of_getElem? e)
section
variable {q : Nat} (hq : q = 3 \/ q = 4) {st which : Int} (hst : aB (3 + Int.tmod (aB st) 2) = (q : Int)) {w : Nat} (hw : Int.tmod (aB which) ((cs (q : Int)).length : Int) = (w : Int)) (hwl : w < (cs (q : Int)).length) {jL : List (List Int)} (afK : Kz jL)
include hq hst
theorem ZV {i s : Nat} {A B : Int} {plan : List Wg} (rec : Int -> List Wg -> Option Bool) (hA : Int.tmod (aB ((jL.getD i [0, 0, 0, 0]).getD 0 0)) (q : Int) = A) (hB : Int.tmod (aB (aB (A + 1) + Int.tmod (aB ((jL.getD i [0, 0, 0, 0]).getD 1 0)) (aB ((q : Int) - 1)))) (q : Int) = B) (hs : s < q) (n : Nat) (v : Wg) :
  wR lV lC l7 l9 lK lW (some true) 1001 st jL which (i : Int) plan rec (n + 1) (s : Int) [v] = wR lV lC l7 l9 lK lW (some true) 1001 st jL which (i : Int) plan rec n ((s + 1 : Nat) : Int) [O7 A B (s : Int) v] := by
 simp only [wR, hst, Int.toNat_natCast, hA, hB]
 rw [decide_eq_true (show (s : Int) < (q : Int) by omega), cond_true, PG (by omega), O7]
 cases ((s : Int) == A) with
 | true => rfl
 | false =>
  cases ((s : Int) == B) with
  | true => rfl
  | false =>
   simp only [cond_false, List.getD_cons_zero]
   cases decide ((v.1.length : Int) < 2) <;> rfl
theorem aq3 {i : Nat} {plan : List Wg} (rec : Int -> List Wg -> Option Bool) (hi : i <= 3) (hpl : plan.length <= 3) (n : Nat) (v : Wg) :
  wR lV lC l7 l9 lK lW (some true) 1001 st jL which (i : Int) plan rec (n + 1) (q : Int) [v] = rec ((i + 1 : Nat) : Int) (plan ++ [v]) := by
 simp only [wR, hst]
 rw [decide_eq_false (Int.lt_irrefl _), cond_false, wJ (ET (by omega) (by decide)), PG (by omega), List.getD_cons_zero]
include hw hwl
theorem acB {plan : List Wg} (hl : plan.length <= 3) (hp : ∀ v ∈ plan, EL q v = true) :
  cond ((plan.length : Int) == 0) (wS lV lC l7 l9 lK lW (some true) 1001 st which 1001 [([0], [1], ())] 0 [[0, 0]]) (wS lV lC l7 l9 lK lW (some true) 1001 st which 1001 plan 0 [[0, 0]]) = some true := by
 cases e : ((plan.length : Int) == 0) with
 | true =>
  rw [cond_true]
  exact alM (ai2 hq (fun v hv => by rw [List.mem_singleton.1 hv]; exact aHG q (by rcases hq with h | h <;> omega) (by rcases hq with h | h <;> omega)) (by simp) (by simp)) hst hw hwl
 | false =>
  rw [cond_false]
  have : plan.length ≠ 0 := fun h => by rw [h] at e; cases e
  exact alM (ai2 hq hp (by omega) hl) hst hw hwl
include afK
theorem acA : ∀ (m i n : Nat) (plan : List Wg), i + m = 3 -> m < n -> plan.length = i -> (∀ v ∈ plan, EL q v = true) ->
  vO lV lC l7 l9 lK lW (some true) 1001 st jL which n (i : Int) plan = some true
 | 0, i, n, plan, hi, hn, hl, hp => by
  obtain ⟨n, rfl⟩ : ∃ k, n = k + 1 := ⟨n - 1, by omega⟩
  have ht := acB hq hst hw hwl (by omega) hp
  simp only [vO]
  rw [decide_eq_false (show ¬ (i : Int) < 3 by omega), cond_false]
  cases decide ((i : Int) < (jL.length : Int)) with
  | true => exact ht
  | false => exact ht
 | m + 1, i, n, plan, hi, hn, hl, hp => by
  obtain ⟨n, rfl⟩ : ∃ k, n = k + 1 := ⟨n - 1, by omega⟩
  have ht := acB hq hst hw hwl (by omega) hp
  by_cases NM : i < jL.length
  ·have hpm : jL.getD i [0, 0, 0, 0] ∈ jL := getD_mem NM
   obtain ⟨_, hz⟩ := afK.1 _ hpm
   have z0 := al2 hz 0
   have z1 := al2 hz 1
   unfold zU at z0 z1
   have hA : Int.tmod (aB ((jL.getD i [0, 0, 0, 0]).getD 0 0)) (q : Int) = ((((jL.getD i [0, 0, 0, 0]).getD 0 0).toNat % q : Nat) : Int) := by rw [oH (by omega), Kw (by omega)]
   have hq1 : aB ((q : Int) - 1) = ((q - 1 : Nat) : Int) := by rw [oH (by rcases hq with h | h <;> omega)]; rcases hq with h | h <;> omega
   have hK : Int.tmod (aB ((jL.getD i [0, 0, 0, 0]).getD 1 0)) (aB ((q : Int) - 1)) = ((((jL.getD i [0, 0, 0, 0]).getD 1 0).toNat % (q - 1) : Nat) : Int) := by rw [hq1, oH (by omega), Kw (by omega)]
   have ha : ((jL.getD i [0, 0, 0, 0]).getD 0 0).toNat % q < q := Nat.mod_lt _ (by rcases hq with h | h <;> omega)
   have hk : ((jL.getD i [0, 0, 0, 0]).getD 1 0).toNat % (q - 1) < q - 1 := Nat.mod_lt _ (by rcases hq with h | h <;> omega)
   generalize ((jL.getD i [0, 0, 0, 0]).getD 0 0).toNat % q = a at hA ha
   generalize ((jL.getD i [0, 0, 0, 0]).getD 1 0).toNat % (q - 1) = k at hK hk
   have hB : Int.tmod (aB (aB ((a : Int) + 1) + (k : Int))) (q : Int) = Int.tmod ((a : Int) + 1 + (k : Int)) (q : Int) := by
    rw [oH (x := (a : Int) + 1) (by rcases hq with h | h <;> omega), oH (by rcases hq with h | h <;> omega)]
   have o1 := aHH q (by rcases hq with h | h <;> omega) (by rcases hq with h | h <;> omega) a ha k hk
   have next : ∀ v : Wg, EL q v = true -> vO lV lC l7 l9 lK lW (some true) 1001 st jL which n ((i + 1 : Nat) : Int) (plan ++ [v]) = some true := fun v hv =>
    acA m (i + 1) n (plan ++ [v]) (by omega) (by omega) (by simp; omega) (fun u hu => by
     rcases List.mem_append.1 hu with h | h
     ·exact hp u h
     ·rw [List.mem_singleton.1 h]; exact hv)
   simp only [vO, hst, Int.toNat_natCast, hA, hK, hB]
   rw [mM NM, cond_true, decide_eq_true (show (i : Int) < 3 by omega), cond_true, lZ NM, kV, pW (by rcases hq with h | h <;> omega), kV, pW (by rw [hq1]; rcases hq with h | h <;> omega), pW (by rcases hq with h | h <;> omega)]
   have one : chk (small (plan.length + 1) 48) (vO lV lC l7 l9 lK lW (some true) 1001 st jL which n (aB ((i : Int) + 1)) (plan ++ [([(a : Int)], [Int.tmod ((a : Int) + 1 + (k : Int)) (q : Int)], ())])) = some true := by
    rw [wJ (ET (by omega) (by decide)), PG (by omega)]
    exact next _ o1
   cases e4 : ((q : Int) == 4) with
   | false => exact one
   | true =>
    rw [cond_true, kV]
    cases (Int.tmod ((jL.getD i [0, 0, 0, 0]).getD 2 0) 2 == 1) with
    | false => exact one
    | true =>
     rw [cond_true]
     have h4 : q = 4 := by have := eq_of_beq e4; omega
     have hB' : Int.tmod (aB (aB ((a : Int) + 1) + Int.tmod (aB ((jL.getD i [0, 0, 0, 0]).getD 1 0)) (aB ((q : Int) - 1)))) (q : Int) = Int.tmod ((a : Int) + 1 + (k : Int)) (q : Int) := by rw [hK, hB]
     have o2 := aHI a (by omega) k (by omega)
     refine (show ∀ j : Nat, wR lV lC l7 l9 lK lW (some true) 1001 st jL which (i : Int) plan (fun y0 y1 => vO lV lC l7 l9 lK lW (some true) 1001 st jL which n y0 y1) (j + 1 + 1 + 1 + 1 + 1) ((0 : Nat) : Int) [([(a : Int)], [Int.tmod ((a : Int) + 1 + (k : Int)) (q : Int)], ())] = some true from fun j => ?_) 996
     rw [ZV hq hst _ hA hB' (by omega), ZV hq hst _ hA hB' (by omega), ZV hq hst _ hA hB' (by omega), ZV hq hst _ hA hB' (by omega)]
     have be := aq3 hq hst (jL := jL) (which := which) (i := i) (plan := plan) (fun y0 y1 => vO lV lC l7 l9 lK lW (some true) 1001 st jL which n y0 y1) (by omega) (by omega) j (alJ (a : Int) (Int.tmod ((a : Int) + 1 + (k : Int)) (q : Int)))
     subst h4
     exact be.trans (next _ o2)
  ·simp only [vO]
   rw [decide_eq_false (show ¬ (i : Int) < (jL.length : Int) by omega), cond_false]
   exact ht
end
theorem aqO {st : Int} (hs : zU st) {jL : List (List Int)} (hp : Kz jL) {which : Int} (hw : zU which) : m4 lV lC l7 l9 lK lW (some true) 1001 st jL which = some true := by
 unfold zU at hs hw
 have e2 : Int.tmod (aB st) 2 = ((st.toNat % 2 : Nat) : Int) := by rw [oH (by omega)]; exact Kw (k := 2) hs.1
 have hst : aB (3 + Int.tmod (aB st) 2) = ((3 + st.toNat % 2 : Nat) : Int) := by rw [e2, oH (by omega)]; omega
 have hq : 3 + st.toNat % 2 = 3 \/ 3 + st.toNat % 2 = 4 := by omega
 generalize 3 + st.toNat % 2 = q at hst hq
 have hcl : (cs (q : Int)).length = 2 * q + 1 := by rw [SH]; simp
 have hwt : Int.tmod (aB which) ((cs (q : Int)).length : Int) = ((which.toNat % (cs (q : Int)).length : Nat) : Int) := by rw [oH (by omega), Kw hw.1]
 exact acA hq hst hwt (Nat.mod_lt _ (by omega)) hp 3 0 1001 [] rfl (by decide) rfl (fun v hv => by cases hv)
open Classical in
noncomputable def C4 (st : Int) (jL : List (List Int)) (which : Int) : Option Bool := if zU st /\ Kz jL /\ zU which then some true else none
theorem KC4 : aF prog 4 (F4 C4) := ok4 lV lC l7 l9 lK lW (some true) apZ abZ ap2 ap3 ap4 ap5 ao4 C4 fun st jL which r h => ⟨1001, by
 simp only [C4] at h
 split at h
 ·rename_i hu
  rw [<- h]; exact aqO hu.1 hu.2.1 hu.2.2
 ·cases h⟩
end Go.Proofs.YtfopcfnggdonkaaGreatDoor
