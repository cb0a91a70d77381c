/-
 What the laws without the reference need.
-/
import Derived.Test.YtfopcfnggdonkaaGreatDoorJ1
namespace Go.Proofs.YtfopcfnggdonkaaGreatDoor
open Go.Proofs.Tryz
open Go.RowKit
set_option linter.unusedVariables false
theorem ag9 {n c : Int} (h : -1000 <= n /\ n <= 1000) : lW n c = false ↔ 0 <= c /\ c < n := by
 have : aH (n - 1) = n - 1 := nG (by omega)
 simp only [lW, this, Bool.not_eq_false', decide_eq_true_eq]; omega
theorem XG {n : Int} {l : List Int} (h : -1000 <= n /\ n <= 1000) : l.any (lW n) = false ↔ ∀ c ∈ l, 0 <= c /\ c < n := by
 rw [List.any_eq_false]
 constructor
 ·intro hh c hc; have := hh c hc; rw [Bool.not_eq_true] at this; exact (ag9 h).1 this
 ·intro hh c hc; rw [Bool.not_eq_true]; exact (ag9 h).2 (hh c hc)
def lN (n : Nat) (l : List Int) : Prop := l.length = n /\ ∀ c ∈ l, 0 <= c /\ c < (n : Int)
structure oW (p : dG) : Prop where
 n2 : 2 <= p.1
 n7 : p.1 <= 7
 i1 : 1 <= p.2.1.length
 i6 : p.2.1.length <= 6
 GI : ∀ l ∈ p.2.1, lN p.1.toNat l
theorem aqU {n : Int} {l : List Int} (h : 2 <= n /\ n <= 7) : FP n l = 0 ↔ lN n.toNat l := by
 have e := XG (n := n) (l := l) (by omega)
 simp only [FP, lN]
 by_cases h1 : (l.length : Int) = n
 ·have : ((l.length : Int) != n) = false := by rw [bne_eq_false_iff_eq]; exact h1
  rw [this, cond_false]
  cases h2 : l.any (lW n) with
  | true =>
   simp only [cond_true]
   constructor
   ·intro hh; omega
   ·intro hh
    have := e.2 (fun c hc => by have := hh.2 c hc; omega)
    rw [h2] at this; cases this
  | false =>
   simp only [cond_false, true_iff]
   exact ⟨by omega, fun c hc => by have := e.1 h2 c hc; omega⟩
 ·have : ((l.length : Int) != n) = true := by rw [bne_iff_ne]; exact h1
  rw [this, cond_true]
  constructor
  ·intro hh; omega
  ·intro hh; omega
theorem aa6 {n : Int} (h : 2 <= n /\ n <= 7) : ∀ {ls : List (List Int)}, DJ n ls = 0 ↔ ∀ l ∈ ls, lN n.toNat l
 | [] => by simp [DJ]
 | l :: r => by
  simp only [DJ, List.forall_mem_cons, <- aa6 h (ls := r), <- aqU (l := l) h]
  by_cases e : FP n l = 0
  ·simp [e]
  ·have : (FP n l == 0) = false := by rw [beq_eq_false_iff_ne]; exact e
   rw [this, cond_false]; simp [e]
theorem Ji {p : dG} : ck p = 0 ↔ oW p := by
 simp only [ck]
 by_cases h1 : 2 <= p.1 /\ p.1 <= 7
 ·rw [if_pos h1]
  by_cases h2 : p.2.1.length = 0
  ·rw [if_pos h2]; exact ⟨fun h => by omega, fun h => by have := h.i1; omega⟩
  ·rw [if_neg h2]
   by_cases h3 : p.2.1.length > 6
   ·rw [if_pos h3]; exact ⟨fun h => by omega, fun h => by have := h.i6; omega⟩
   ·rw [if_neg h3, aa6 h1]
    exact ⟨fun h => ⟨h1.1, h1.2, by omega, by omega, h⟩, fun h => h.GI⟩
 ·rw [if_neg h1]; exact ⟨fun h => by omega, fun h => absurd ⟨h.n2, h.n7⟩ h1⟩
theorem oW.fit {p : dG} (h : oW p) : yZ p = true := by
 have h1 := h.i6
 have h2 := h.n7
 simp only [yZ, Bool.and_eq_true, decide_eq_true_eq, List.all_eq_true]
 exact ⟨by omega, fun l hl => by have := (h.GI l hl).1; omega⟩
def AQ (p : dG) (l : List Int) : Prop := ∀ i ∈ l, 0 <= i /\ i < (p.2.1.length : Int)
theorem Gs {p : dG} {l : List Int} {most : Int} : sH p l most = 0 ↔ oW p /\ (l.length : Int) <= most /\ AQ p l := by
 simp only [sH]
 by_cases h1 : ck p = 0
 ·have hp := Ji.1 h1
  have e := XG (n := (p.2.1.length : Int)) (l := l) (by have := hp.i6; omega)
  rw [if_pos h1]
  by_cases h2 : (l.length : Int) > most
  ·rw [if_pos h2]; exact ⟨fun h => by omega, fun h => by omega⟩
  ·rw [if_neg h2]
   cases h3 : l.any (lW (p.2.1.length : Int)) with
   | true =>
    simp only [cond_true]
    exact ⟨fun h => by omega, fun h => by have := e.2 h.2.2; rw [h3] at this; cases this⟩
   | false => simp only [cond_false, true_iff]; exact ⟨hp, by omega, e.1 h3⟩
 ·rw [if_neg h1]; exact ⟨fun h => absurd h h1, fun h => absurd (Ji.2 h.1) h1⟩
theorem Nr {α : Type} {l : List α} {i : Nat} {d : α} (h : i < l.length) : l.getD i d ∈ l := by
 rw [List.getD_eq_getElem?_getD, List.getElem?_eq_getElem h]; exact List.getElem_mem h
theorem oW.at {p : dG} (h : oW p) {i : Int} (hi : 0 <= i /\ i < (p.2.1.length : Int)) : lN p.1.toNat (p.2.1.getD i.toNat []) := h.GI _ (Nr (by omega))
theorem lN.at {n : Nat} {l : List Int} (h : lN n l) {c : Nat} (hc : c < n) : 0 <= l.getD c 0 /\ l.getD c 0 < (n : Int) := h.2 _ (Nr (by rw [h.1]; exact hc))
def wG (l : List Int) (o c : Nat) : Nat := o ||| 2 ^ (l.getD c 0).toNat
def cols (s : Nat) : List Nat := (List.range 7).filter s.testBit
def mX (l : List Int) (s : Nat) : Nat := (cols s).foldl (wG l) s
def qI (s : Nat) : List Int := (cols s).map fun (c : Nat) => (c : Int)
theorem H6 {s n c : Nat} (h : s < 2 ^ n) (hc : s.testBit c = true) : c < n := by
 rcases Nat.lt_or_ge c n with h' | h'
 ·exact h'
 ·rw [Nat.testBit_lt_two_pow (Nat.lt_of_lt_of_le h (Nat.pow_le_pow_right (by decide) h'))] at hc; cases hc
theorem FT {s c : Nat} : c ∈ cols s ↔ c < 7 /\ s.testBit c = true := by simp [cols]
theorem aBA {n : Nat} {l : List Int} (h : lN n l) {o c : Nat} (ho : o < 2 ^ n) (hc : c < n) : wG l o c < 2 ^ n := by
 have := h.at hc
 exact Nat.or_lt_two_pow ho (Nat.pow_lt_pow_right (by decide) (by omega))
theorem axS (l : List Int) (o c : Nat) : o <= wG l o c := Nat.left_le_or
theorem ac5 {n : Nat} {l : List Int} (h : lN n l) : ∀ (cs : List Nat) (o : Nat), (∀ c ∈ cs, c < n) -> o < 2 ^ n -> cs.foldl (wG l) o < 2 ^ n /\ o <= cs.foldl (wG l) o
 | [], o, _, ho => ⟨ho, Nat.le_refl _⟩
 | c :: cs, o, hc, ho => by
  obtain ⟨a, b⟩ := ac5 h cs (wG l o c) (fun x hx => hc x (by simp [hx])) (aBA h ho (hc c (by simp)))
  exact ⟨a, Nat.le_trans (axS l o c) b⟩
theorem OY {n : Nat} {l : List Int} (h : lN n l) {s : Nat} (hs : s < 2 ^ n) : mX l s < 2 ^ n /\ s <= mX l s :=
 ac5 h _ _ (fun c hc => H6 hs (FT.1 hc).2) hs
theorem ahL {n : Nat} (h : n <= 7) : 2 ^ n <= 128 := (Nat.pow_le_pow_right (by decide) h : 2 ^ n <= 2 ^ 7)
theorem aq0 {s n : Nat} (h0 : 0 < s) (h : s < 2 ^ n) (hn : n <= 7) : cols s ≠ [] := fun e => by
 obtain ⟨i, hi⟩ := Nat.exists_testBit_of_ne_zero (Nat.ne_of_gt h0)
 have : i ∈ cols s := FT.2 ⟨by have := H6 h hi; omega, hi⟩
 rw [e] at this; cases this
theorem ao2 {n : Nat} {l : List Int} {k : Int} (h : ∀ c, c < n -> l.getD c 0 = k) {s : Nat} (h0 : 0 < s) (hs : s < 2 ^ n) (hn : n <= 7) : mX l s = s ||| 2 ^ k.toNat := by
 have main : ∀ (cs : List Nat) (o : Nat), (∀ c ∈ cs, c < n) -> cs ≠ [] -> cs.foldl (wG l) o = o ||| 2 ^ k.toNat := by
  intro cs
  induction cs with
  | nil => intro o _ h; exact absurd rfl h
  | cons c cs ih =>
   intro o hc _
   rw [List.foldl_cons, wG, h c (hc c (by simp))]
   by_cases e : cs = []
   ·subst e; rfl
   ·rw [ih _ (fun x hx => hc x (by simp [hx])) e, Nat.or_assoc, Nat.or_self]
 exact main _ _ (fun c hc => H6 hs (FT.1 hc).2) (aq0 h0 hs hn)
def y7 (p : dG) (l : List Int) : Nat := l.foldl (fun s i => mX (p.2.1.getD i.toNat []) s) 1
theorem adE {p : dG} (h : oW p) : ∀ (l : List Int) (s : Nat), AQ p l -> 0 < s -> s < 2 ^ p.1.toNat -> 0 < l.foldl (fun s i => mX (p.2.1.getD i.toNat []) s) s /\ l.foldl (fun s i => mX (p.2.1.getD i.toNat []) s) s < 2 ^ p.1.toNat
 | [], s, _, h0, h1 => ⟨h0, h1⟩
 | i :: l, s, hl, h0, h1 => by
  obtain ⟨a, b⟩ := OY (h.at (hl i (by simp))) h1
  exact adE h l _ (fun x hx => hl x (by simp [hx])) (Nat.lt_of_lt_of_le h0 b) a
theorem adF {p : dG} (h : oW p) {l : List Int} (hl : AQ p l) : 0 < y7 p l /\ y7 p l < 2 ^ p.1.toNat :=
 adE h l 1 hl (by decide) (by have := h.n2; exact (Nat.one_lt_two_pow (by omega)))
def ER (s c : Int) : Option Bool := if 0 <= s /\ s < 256 /\ 0 <= c /\ c <= 8 then some (s.toNat.testBit c.toNat) else none
theorem aoU : aC prog 62 (N8 ER) := aA1 ER fun s c r h => ⟨0, by
 simp only [ER] at h
 split at h
 ·rename_i hl
  obtain ⟨h1, h2, h3, h4⟩ := hl
  obtain ⟨s, rfl⟩ : ∃ k : Nat, s = k := ⟨s.toNat, by omega⟩
  obtain ⟨c, rfl⟩ : ∃ k : Nat, c = k := ⟨c.toNat, by omega⟩
  rw [<- h, Rw, decide_eq_true h3, kX, apX (by omega) (by omega)]; rfl
 ·cases h⟩
def EP (s : Int) : Option (List Int) := if 0 <= s /\ s < 256 then some (qI s.toNat) else none
theorem aB3 {n t x : Nat} (ht : t < (List.range n).length) (hx : (List.range n).getD t 0 = x) : x = t := by
 simp only [List.length_range] at ht
 rw [<- hx]; simp [List.getD, ht]
theorem aaD : aC prog 28 (EZ EP) := aAL ER aoU EP fun s r h => ⟨1001, by
 simp only [EP] at h
 split at h
 ·rename_i hl
  obtain ⟨s, rfl⟩ : ∃ k : Nat, s = k := ⟨s.toNat, by omega⟩
  rw [<- h, Dj]
  have main := Fq (List.range 7) 0 (fun n (out : List Int) t => l28a ER 1001 (s : Int) n t out) (fun xs out => out.length + xs.length <= 7) (fun xs out => some (out ++ (xs.filter s.testBit).map fun (c : Nat) => (c : Int)))
   (fun n out t x rest ht hx hI ih => by
    obtain rfl := aB3 ht hx
    simp only [List.length_range] at ht
    simp only [List.length_cons] at hI
    have e1 : decide ((x : Int) < 7) = true := decide_eq_true (by omega)
    have e2 : ER (s : Int) (x : Int) = some (s.testBit x) := by rw [ER, if_pos (by omega)]; rfl
    simp only [l28a, XP, e1, cond_true, e2, Option.bind_some, qM (n := 7) (by omega) (by omega), AV (IV (n := out.length + 1) (eb := 8) (by omega) (by decide)), List.filter_cons]
    cases s.testBit x with
    | true => rw [cond_true, ih _ (by simp; omega)]; simp
    | false => rw [cond_false, ih _ (by omega)]; simp)
   (fun n out _ => by simp [l28a, XP]) 1001 [] (by simp) (by simp)
  rw [main]; rfl
 ·cases h⟩
theorem aaE : aC prog 91 (FB fun o _ => some o) := aA7 (fun o _ => some o) fun o c r h => ⟨0, by rw [<- h]; rfl⟩
def uI (l : List Int) (c : Int) : Option Int := if 0 <= c /\ c < (l.length : Int) then some (l.getD c.toNat 0) else none
theorem aaA : aC prog 195 (EW uI) := aAE uI fun l c r h => ⟨0, by
 simp only [uI] at h
 split at h
 ·rename_i hl; rw [<- h, Rh, decide_eq_true hl]; rfl
 ·cases h⟩
theorem Qa {n : Nat} (h : 0 < n) : decide (0 <= (0 : Int) /\ (0 : Int) < (n : Int)) = true := decide_eq_true (by omega)
def mx (l : List Int) : Int := (l.drop 1).foldl imax (l.getD 0 0)
def mn (l : List Int) : Int := (l.drop 1).foldl vY (l.getD 0 0)
def MP (l : List Int) : Option Int := if 0 < l.length /\ l.length <= 1000 then some (mx l) else none
def MQ (l : List Int) : Option Int := if 0 < l.length /\ l.length <= 1000 then some (mn l) else none
theorem aoR : aC prog 59 (NY MP) := aAY MP fun l r h => ⟨1001, by
 simp only [MP] at h
 split at h
 ·rename_i hl
  rw [<- h, Dv, decide_eq_false (by omega : ¬ (l.length : Int) < 1), cond_false, Qa hl.1, kX]
  exact aiZ l 0 (fun n m t => GY 1001 l n m t) (fun _ xs m => some (xs.foldl imax m))
   (fun n m t x rest ht hx _ _ ih => by
    simp only [GY, XW, rP ht, rQ ht, cond_true, kX, Int.toNat_natCast, qM ht (by omega), hx, ih, List.foldl_cons])
   (fun n m => by simp only [GY, XW, qL, cond_false]; rfl) 1001 (l.getD 0 0) 1 (by omega) (by omega)
 ·cases h⟩
theorem aoS : aC prog 60 (NZ MQ) := aAZ MQ fun l r h => ⟨1001, by
 simp only [MQ] at h
 split at h
 ·rename_i hl
  rw [<- h, Dw, decide_eq_false (by omega : ¬ (l.length : Int) < 1), cond_false, Qa hl.1, kX]
  exact aiZ l 0 (fun n m t => G5 1001 l n m t) (fun _ xs m => some (xs.foldl vY m))
   (fun n m t x rest ht hx _ _ ih => by
    simp only [G5, XY, rP ht, rQ ht, cond_true, kX, Int.toNat_natCast, qM ht (by omega), hx, ih, List.foldl_cons])
   (fun n m => by simp only [G5, XY, qL, cond_false]; rfl) 1001 (l.getD 0 0) 1 (by omega) (by omega)
 ·cases h⟩
theorem ad3 : ∀ (xs : List Int) (m : Int), m <= xs.foldl imax m /\ ∀ x ∈ xs, x <= xs.foldl imax m
 | [], m => ⟨Int.le_refl _, fun x h => by cases h⟩
 | y :: xs, m => by
  obtain ⟨a, b⟩ := ad3 xs (imax m y)
  have e : m <= imax m y /\ y <= imax m y := by simp only [imax]; split <;> omega
  rw [List.foldl_cons]
  refine ⟨by omega, fun x hx => ?_⟩
  rcases List.mem_cons.1 hx with rfl | hx
  ·omega
  ·exact b x hx
theorem ad4 : ∀ (xs : List Int) (m : Int), xs.foldl vY m <= m /\ ∀ x ∈ xs, xs.foldl vY m <= x
 | [], m => ⟨Int.le_refl _, fun x h => by cases h⟩
 | y :: xs, m => by
  obtain ⟨a, b⟩ := ad4 xs (vY m y)
  have e : vY m y <= m /\ vY m y <= y := by simp only [vY]; split <;> omega
  rw [List.foldl_cons]
  refine ⟨by omega, fun x hx => ?_⟩
  rcases List.mem_cons.1 hx with rfl | hx
  ·omega
  ·exact b x hx
theorem ac2 {l : List Int} (h : mx l = mn l) : ∀ c, c < l.length -> l.getD c 0 = l.getD 0 0 := by
 cases l with
 | nil => intro c hc; simp at hc
 | cons a l =>
  simp only [mx, mn, List.drop_succ_cons, List.drop_zero, List.getD_cons_zero] at h
  obtain ⟨a1, a2⟩ := ad3 l a
  obtain ⟨b1, b2⟩ := ad4 l a
  intro c hc
  cases c with
  | zero => rfl
  | succ c =>
   have hm : l.getD c 0 ∈ l := Nr (by simpa using hc)
   have h1 := a2 _ hm
   have h2 := b2 _ hm
   show l.getD c 0 = a
   omega
abbrev Ik := Int ⊕ (List Int ⊕ Unit)
def kd (l : List Int) : Ik := cond (mx l == mn l) (.inl (l.getD 0 0)) (.inr (.inl l))
def zY (p : dG) (i : Int) : Option Ik := if 0 <= i /\ i < (p.2.1.length : Int) /\ 0 < (p.2.1.getD i.toNat []).length /\ (p.2.1.getD i.toNat []).length <= 1000 then some (kd (p.2.1.getD i.toNat [])) else none
theorem aaC : aC prog 26 (EY zY) := aAJ MP MQ aoR aoS zY fun p i r h => ⟨0, by
 simp only [zY] at h
 split at h
 ·rename_i hl
  obtain ⟨h1, h2, h3, h4⟩ := hl
  rw [<- h, Rj, decide_eq_true ⟨h1, h2⟩, kX, MP, MQ, if_pos ⟨h3, h4⟩, if_pos ⟨h3, h4⟩, Option.bind_some, Option.bind_some, Qa h3, kX, kd]
  cases mx (p.2.1.getD i.toNat []) == mn (p.2.1.getD i.toNat []) <;> rfl
 ·cases h⟩
theorem oW.yL {p : dG} (h : oW p) {i : Int} (hi : 0 <= i /\ i < (p.2.1.length : Int)) : Go.Proofs.YtfopcfnggdonkaaGreatDoor.zY p i = some (kd (p.2.1.getD i.toNat [])) := by
 have := (h.at hi).1
 have h2 := h.n2
 have h7 := h.n7
 exact if_pos ⟨hi.1, hi.2, by omega, by omega⟩
def Uh (s : Nat) (l : List Int) : Bool := (cols s).all fun c => decide (c < l.length) && decide (0 <= l.getD c 0) && decide (l.getD c 0 < 7)
def yL (s : Int) (k : Ik) : Option Int := if 0 <= s /\ s < 128 then (match k with
 | .inl o => if 0 <= o /\ o < 8 then some ((s.toNat ||| 2 ^ o.toNat : Nat) : Int) else none
 | .inr (.inl l) => if Uh s.toNat l then some (mX l s.toNat : Int) else none
 | .inr (.inr _) => none) else none
theorem aoT : aC prog 61 (N7 yL) := aA0 uI EP (fun o _ => some o) aaA aaD aaE yL fun s k r h => ⟨1001, by
 simp only [yL] at h
 split at h
 ·rename_i hs
  obtain ⟨s, rfl⟩ : ∃ k : Nat, s = k := ⟨s.toNat, by omega⟩
  have hs' : s < 128 := by omega
  split at h
  ·rename_i o
   split at h
   ·rename_i ho
    obtain ⟨o, rfl⟩ : ∃ k : Nat, o = k := ⟨o.toNat, by omega⟩
    have hp : 2 ^ o < 2 ^ 8 := Nat.pow_lt_pow_right (by decide) (by omega)
    rw [<- h, QG]
    simp only [KU, Option.isSome_some, cond_true, Option.getD_some, Option.bind_some, decide_eq_true ho.1, kX]
    rw [ag7 (by omega), aaR (by omega) hp]; rfl
   ·cases h
  ·rename_i l
   split at h
   ·rename_i ho
    simp only [Uh, Int.toNat_natCast, List.all_eq_true, Bool.and_eq_true, decide_eq_true_eq] at ho
    rw [<- h, QG]
    simp only [KU, Option.isSome_none, cond_false, EP, if_pos (show 0 <= (s : Int) /\ (s : Int) < 256 by omega), Option.bind_some, Int.toNat_natCast]
    have hlen : (qI s).length <= 7 := by simp only [qI, List.length_map, cols]; exact Nat.le_trans (List.length_filter_le _ _) (by simp)
    have main := Fq (qI s) 0 (fun n (o : Nat) t => G6 uI (fun s => if 0 <= s /\ s < 256 then some (qI s.toNat) else none) (fun o _ => some o) 1001 (.inr (.inl l)) (qI s) n (o : Int) t) (fun xs o => o < 128 /\ ∀ x ∈ xs, 0 <= x /\ x.toNat < l.length /\ 0 <= l.getD x.toNat 0 /\ l.getD x.toNat 0 < 7) (fun xs o => some ((xs.foldl (fun o x => wG l o x.toNat) o : Nat) : Int))
     (fun n o t x rest ht hx hI ih => by
      obtain ⟨x0, x1, x2, x3⟩ := hI.2 x (List.mem_cons_self ..)
      obtain ⟨z, hz⟩ : ∃ z : Nat, l.getD x.toNat 0 = z := ⟨(l.getD x.toNat 0).toNat, by omega⟩
      have hp : 2 ^ z < 2 ^ 7 := Nat.pow_lt_pow_right (by decide) (by omega)
      have hb : uI l x = some (z : Int) := by rw [uI, if_pos (by omega), hz]
      have ho : o ||| 2 ^ z < 2 ^ 7 := Nat.or_lt_two_pow hI.1 hp
      simp only [G6, XZ, rP ht, rQ ht, cond_true, kX, Int.toNat_natCast, qM ht (by omega), hx, zC, hb, Option.bind_some, decide_eq_true (show (0 : Int) <= z by omega)]
      have e1 := ag7 (c := z) (by omega)
      simp only [Int.toNat_natCast] at e1
      rw [e1, aaR (by omega) (by omega), ih _ ⟨ho, fun y hy => hI.2 y (by simp [hy])⟩, List.foldl_cons]
      simp only [wG, hz, Int.toNat_natCast])
     (fun n o _ => by simp only [G6, XZ, qL, cond_false]; rfl) 1001 s (by omega) ⟨hs', fun x hx => by
      simp only [qI, List.mem_map] at hx
      obtain ⟨c, hc, rfl⟩ := hx
      have := ho c hc
      simp only [Int.toNat_natCast]
      exact ⟨by omega, this.1.1, this.1.2, this.2⟩⟩
    rw [show ((s : Nat) : Int) = ((s : Nat) : Int) from rfl] at main
    refine main.trans ?_
    simp only [qI, List.foldl_map, Int.toNat_natCast, mX]
   ·cases h
  ·cases h
 ·cases h⟩
theorem aBX {n : Nat} {l : List Int} (h : lN n l) (hn : 2 <= n /\ n <= 7) {s : Nat} (h0 : 0 < s) (hs : s < 2 ^ n) : yL (s : Int) (kd l) = some ((mX l s : Nat) : Int) := by
 have h7 := ahL hn.2
 unfold yL
 rw [if_pos (by omega), kd]
 by_cases e : mx l = mn l
 ·have e' : (mx l == mn l) = true := by rw [beq_iff_eq]; exact e
  have h1 := h.at (c := 0) (by omega)
  rw [e', cond_true]
  simp only
  rw [if_pos (by omega), Int.toNat_natCast, ao2 (n := n) (fun c hc => ac2 e c (by rw [h.1]; exact hc)) h0 hs hn.2]
 ·have e' : (mx l == mn l) = false := by rw [beq_eq_false_iff_ne]; exact e
  rw [e', cond_false]
  simp only
  rw [if_pos, Int.toNat_natCast]
  simp only [Uh, Int.toNat_natCast, List.all_eq_true, Bool.and_eq_true, decide_eq_true_eq]
  intro c hc
  have hc' := H6 hs (FT.1 hc).2
  have := h.at hc'
  exact ⟨⟨by rw [h.1]; exact hc', this.1⟩, by omega⟩
end Go.Proofs.YtfopcfnggdonkaaGreatDoor
