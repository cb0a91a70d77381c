/-
 Piles: which letters can be opened, and the first form.
-/
import Derived.Test.YtfopcfnggdonkaaGreatDoorL2
namespace Go.Proofs.YtfopcfnggdonkaaGreatDoor
open Go.Proofs.Tryz
open Go.RowKit
set_option linter.unusedVariables false
def okD (d : List Int) : Prop := d.length = 6 /\ ∀ i, i < 6 -> 0 <= d.getD i 0 /\ d.getD i 0 < 64
instance (d : List Int) : Decidable (okD d) := by unfold okD; infer_instance
theorem acH (o : Of) : okD (jV o) := by
 refine ⟨rfl, fun i hi => ?_⟩
 have h := fun b => Uw (bits o.1 o.2.1 b)
 match i, hi with
 | 0, _ => have := h 0; constructor <;> (show _ ) <;> simp [jV, AZ] <;> omega
 | 1, _ => have := h 1; constructor <;> (show _ ) <;> simp [jV, AZ] <;> omega
 | 2, _ => have := h 2; constructor <;> (show _ ) <;> simp [jV, AZ] <;> omega
 | 3, _ => have := h 3; constructor <;> (show _ ) <;> simp [jV, AZ] <;> omega
 | 4, _ => have := h 4; constructor <;> (show _ ) <;> simp [jV, AZ] <;> omega
 | 5, _ => have := h 5; constructor <;> (show _ ) <;> simp [jV, AZ] <;> omega
def pJ (b : UInt8) : Prop := 97 <= b.toNat /\ b.toNat <= 102
instance (b : UInt8) : Decidable (pJ b) := by unfold pJ; infer_instance
def Do (o : Of) (x y : UInt8) : Bool := !nM o.2.1 ((x.toNat : Int) - 97) ((y.toNat : Int) - 97)
theorem vJ {o : Of} (h : iG o = 0) : uJ (Do o) := ⟨fun x => by unfold Do; rw [atS h]; rfl, fun x y => by unfold Do; rw [atT]⟩
theorem Hw {o : Of} (h : iG o = 0) {x y : UInt8} (hx : 97 <= x.toNat /\ (x.toNat : Int) <= 97 + o.1 - 1) (hy : 97 <= y.toNat /\ (y.toNat : Int) <= 97 + o.1 - 1) : Dk (jV o) x y = Do o x y := by
 obtain ⟨hk, _, _⟩ := A8 h
 have hd : qB (bits o.1 o.2.1) (jV o) := arE fun i j hj => by
  unfold bits
  rw [decide_eq_false (show ¬ (j : Int) < o.1 by omega), Bool.and_false, Bool.false_and]
 obtain ⟨m, h1, h2, h3⟩ := hd.2 (x.toNat - 97) (by omega)
 unfold Dk Do
 rw [h2, Int.toNat_natCast, Nat.shiftRight_eq_div_pow]
 have e := h3 (y.toNat - 97)
 rw [Nat.testBit_eq_decide_div_mod_eq] at e
 have e2 : (m / 2 ^ (y.toNat - 97) % 2 == 1) = decide (m / 2 ^ (y.toNat - 97) % 2 = 1) := rfl
 rw [e2, e]
 unfold bits
 rw [decide_eq_true (by omega), decide_eq_true (by omega), Bool.true_and, Bool.true_and, show ((x.toNat - 97 : Nat) : Int) = (x.toNat : Int) - 97 by omega, show ((y.toNat - 97 : Nat) : Int) = (y.toNat : Int) - 97 by omega]
def zZ (d : List Int) (x y : Int) : Option Bool := if okD d /\ (97 <= x /\ x <= 102) /\ 97 <= y /\ y <= 102 then some (Dk d (UInt8.ofNat x.toNat) (UInt8.ofNat y.toNat)) else none
theorem axK : aC prog 63 (AO zZ) := ag4 zZ fun d x y r h => ⟨0, by
 unfold zZ at h
 split at h
 ·rename_i hq
  obtain ⟨⟨hl, hd⟩, hx, hy⟩ := hq
  obtain rfl := Option.some.inj h
  obtain ⟨a, rfl⟩ : ∃ a : Nat, x = (a : Int) + 97 := ⟨(x - 97).toNat, by omega⟩
  obtain ⟨b, rfl⟩ : ∃ b : Nat, y = (b : Int) + 97 := ⟨(y - 97).toNat, by omega⟩
  obtain ⟨h1, h2⟩ := hd a (by omega)
  obtain ⟨m, hm⟩ : ∃ m : Nat, d.getD a 0 = (m : Int) := ⟨(d.getD a 0).toNat, by omega⟩
  unfold Dx
  rw [show ((a : Int) + 97 - 97) = (a : Int) by omega, show ((b : Int) + 97 - 97) = (b : Int) by omega, wrap_u8 (by omega) (by omega), wrap_u8 (by omega) (by omega), iU (by omega), iU (by omega), Int.toNat_natCast a, hm, apW (by omega) (by omega)]
  unfold Dk
  have ea : (UInt8.ofNat ((a : Int) + 97).toNat).toNat - 97 = a := by
   rw [UInt8.toNat_ofNat', Nat.mod_eq_of_lt (by omega)]; omega
  have eb : (UInt8.ofNat ((b : Int) + 97).toNat).toNat - 97 = b := by
   rw [UInt8.toNat_ofNat', Nat.mod_eq_of_lt (by omega)]; omega
  rw [ea, eb, hm, Int.toNat_natCast, Nat.shiftRight_eq_div_pow, Nat.testBit_eq_decide_div_mod_eq]
  rfl
 ·cases h⟩
def Pl' (S : List Nat) : Lf := S.map fun i : Nat => ((i : Int), true)
def kz (l : Lf) : List Nat := l.map fun p => p.1.toNat
theorem uU (S : List Nat) : kz (Pl' S) = S := by
 unfold kz Pl'
 rw [List.map_map]
 exact (List.map_congr_left fun i _ => by simp).trans (List.map_id S)
theorem afD (i : Nat) : ∀ S : List Nat, jT (kt := .int .i64) (vt := .bool) (Pl' S) (i : Int) = if i ∈ S then some true else none
 | [] => rfl
 | j :: S => by
  show cond (decide ((i : Int) = (j : Int))) (some true) (jT (kt := .int .i64) (vt := .bool) (Pl' S) (i : Int)) = _
  rw [afD i S]
  by_cases h : i = j
  ·subst h; simp
  ·rw [decide_eq_false (by omega), cond_false]
   simp [h]
theorem afE (i : Nat) (S : List Nat) : (jT (kt := .int .i64) (vt := .bool) (Pl' S) (i : Int)).getD false = decide (i ∈ S) := by
 rw [afD]
 by_cases h : i ∈ S
 ·rw [if_pos h, decide_eq_true h]; rfl
 ·rw [if_neg h, decide_eq_false h]; rfl
theorem afA (i : Nat) : ∀ S : List Nat, rW (kt := .int .i64) (vt := .bool) (Pl' S) (i : Int) = Pl' (S.erase i)
 | [] => rfl
 | j :: S => by
  show cond (decide ((i : Int) = (j : Int))) (Pl' S) (((j : Int), true) :: rW (kt := .int .i64) (vt := .bool) (Pl' S) (i : Int)) = _
  rw [afA i S, List.erase_cons]
  by_cases h : i = j
  ·subst h; simp
  ·rw [decide_eq_false (by omega), cond_false, if_neg (by simpa using fun e : j = i => h e.symm)]; rfl
theorem afG (i : Nat) : ∀ S : List Nat, i ∉ S -> qN (kt := .int .i64) (vt := .bool) (Pl' S) (i : Int) true = Pl' (S ++ [i])
 | [], _ => rfl
 | j :: S, h => by
  have h1 : i ≠ j := fun e => h (by simp [e])
  show cond (decide ((i : Int) = (j : Int))) _ (((j : Int), true) :: qN (kt := .int .i64) (vt := .bool) (Pl' S) (i : Int) true) = _
  rw [afG i S (fun e => h (by simp [e])), decide_eq_false (by omega), cond_false]; rfl
def Vp (d : List Int) (log : Wd) (l : Lf) : Prop := okD d /\ (∀ b ∈ log, pJ b) /\ log.length <= 20 /\ l = Pl' (kz l) /\ (kz l).Pairwise (· < ·) /\ ∀ k ∈ kz l, k < log.length
instance (d : List Int) (log : Wd) (l : Lf) : Decidable (Vp d log l) := by unfold Vp; infer_instance
def fr (D : UInt8 -> UInt8 -> Bool) (log : Wd) (S : List Nat) (i : Nat) : Bool := S.all fun k => !(decide (k < i) && D (log.getD k 0) (log.getD i 0))
def AA (i : Int) (d : List Int) (log : Wd) (l : Lf) : Option (Bool × List Int × Wd × Lf) :=
 if Vp d log l /\ 0 <= i /\ i < log.length then some (decide (i.toNat ∈ kz l) && fr (Dk d) log (kz l) i.toNat, d, log, l) else none
theorem getD_mem {α : Type} {l : List α} {i : Nat} {d : α} (h : i < l.length) : l.getD i d ∈ l := by
 rw [List.getD_eq_getElem?_getD, List.getElem?_eq_getElem h]; exact List.getElem_mem h
theorem ofNat_toNat (b : UInt8) : UInt8.ofNat ((b.toNat : Int)).toNat = b := by
 rw [Int.toNat_natCast]; exact UInt8.ofNat_toNat
theorem ak5 {d : List Int} (hd : okD d) {x y : UInt8} (hx : pJ x) (hy : pJ y) : zZ d (x.toNat : Int) (y.toNat : Int) = some (Dk d x y) := by
 unfold zZ
 unfold pJ at hx hy
 rw [if_pos ⟨hd, by omega, by omega, by omega⟩, ofNat_toNat, ofNat_toNat]
theorem axM : aC prog 82 (OA AA) := aA5 zZ axK AA fun i d log l r h => ⟨30, by
 unfold AA at h
 split at h
 ·rename_i hq
  obtain ⟨⟨hd, hL, hn, hl, hs, hlt⟩, h0, h1⟩ := hq
  obtain rfl := Option.some.inj h
  obtain ⟨i, rfl⟩ : ∃ k : Nat, i = (k : Int) := ⟨i.toNat, by omega⟩
  generalize hS : kz l = S at *
  subst hl
  unfold Eb
  rw [afE, Int.toNat_natCast]
  by_cases hi : i ∈ S
  ·rw [decide_eq_true hi, Bool.not_true, cond_false, Bool.true_and]
   have hil : i < log.length := by omega
   have key := YP 0 (i : Int) (by omega) (fun n (_ : Unit) t => BQ zZ 30 (i : Int) d log (Pl' S) n t) (fun t _ => 0 <= t) (fun t _ => some ((S.all fun k => !(decide (t <= (k : Int)) && decide (k < i) && Dk d (log.getD k 0) (log.getD i 0))), d, log, Pl' S)) (fun n _ t t0 t1 _ ih => ?_) (fun n _ _ => ?_) 30 () (by omega) (by omega)
   ·rw [key]
    unfold fr
    congr 2
   ·show BQ zZ 30 (i : Int) d log (Pl' S) (n + 1) t = _
    obtain ⟨t, rfl⟩ : ∃ k : Nat, t = (k : Int) := ⟨t.toNat, by omega⟩
    rw [BQ, X5, decide_eq_true t1, cond_true, afE, iU (by omega), iU (by omega), Int.toNat_natCast, Int.toNat_natCast, ak5 hd (hL _ (getD_mem (by omega))) (hL _ (getD_mem hil)), Option.bind_some, He (by omega)]
    have step : ∀ b : Bool, b = (decide (t ∈ S) && Dk d (log.getD t 0) (log.getD i 0)) -> (S.all fun k => !(decide ((t : Int) <= (k : Int)) && decide (k < i) && Dk d (log.getD k 0) (log.getD i 0))) = (!b && S.all fun k => !(decide ((t : Int) + 1 <= (k : Int)) && decide (k < i) && Dk d (log.getD k 0) (log.getD i 0))) := by
     rintro b rfl
     rw [Bool.eq_iff_iff]
     simp only [List.all_eq_true, Bool.not_eq_true', Bool.and_eq_false_iff, decide_eq_false_iff_not, Bool.and_eq_true, Bool.not_eq_true']
     constructor
     ·intro hall
      refine ⟨?_, fun k hk => ?_⟩
      ·by_cases ht : t ∈ S
       ·have := hall t ht
        rcases this with (h | h) | h
        ·omega
        ·omega
        ·exact .inr h
       ·exact .inl ht
      ·rcases hall k hk with (h | h) | h
       ·exact .inl (.inl (by omega))
       ·exact .inl (.inr h)
       ·exact .inr h
     ·rintro ⟨ha, hb⟩ k hk
      by_cases hkt : k = t
      ·subst hkt
       rcases ha with ha | ha
       ·exact absurd hk ha
       ·exact .inr ha
      ·rcases hb k hk with (h | h) | h
       ·exact .inl (.inl (by omega))
       ·exact .inl (.inr h)
       ·exact .inr h
    have ih' := ih () (by omega)
    by_cases ht : t ∈ S
    ·rw [decide_eq_true ht, cond_true]
     cases hD : Dk d (log.getD t 0) (log.getD i 0) with
     | true => rw [cond_true, step true (by rw [decide_eq_true ht, hD]; rfl)]; rfl
     | false => rw [cond_false, step false (by rw [hD, Bool.and_false])]; exact ih'
    ·rw [decide_eq_false ht, cond_false, step false (by rw [decide_eq_false ht]; rfl)]
     exact ih'
   ·show BQ zZ 30 (i : Int) d log (Pl' S) (n + 1) (i : Int) = _
    rw [BQ, X5, decide_eq_false (by omega), cond_false]
    have : (S.all fun k => !(decide ((i : Int) <= (k : Int)) && decide (k < i) && Dk d (log.getD k 0) (log.getD i 0))) = true := by
     rw [List.all_eq_true]
     intro k _
     by_cases hk : k < i
     ·rw [decide_eq_false (show ¬ (i : Int) <= k by omega)]; rfl
     ·rw [decide_eq_false hk, Bool.and_false]; rfl
    rw [this]
  ·rw [decide_eq_false hi]; rfl
 ·cases h⟩
def KN (D : UInt8 -> UInt8 -> Bool) (log : Wd) (S : List Nat) (k : Int) : Option Nat := S.find? fun i => decide (((log.getD i 0).toNat : Int) = k) && fr D log S i
def yJ (k : Int) (d : List Int) (log : Wd) (l : Lf) : Option (Int × Bool × List Int × Wd × Lf) :=
 if Vp d log l then some (match KN (Dk d) log (kz l) k with
  | some i => ((i : Int), true, d, log, l)
  | none => (0, false, d, log, l)) else none
theorem atB (P : Nat -> Bool) (S : List Nat) (hs : S.Pairwise (· < ·)) (t : Nat) : (S.find? fun i => decide (t <= i) && P i) = if t ∈ S /\ P t = true then some t else S.find? fun i => decide (t + 1 <= i) && P i := by
 induction S with
 | nil => simp
 | cons j S ih =>
  obtain ⟨h1, h2⟩ := List.pairwise_cons.1 hs
  rw [List.find?_cons, List.find?_cons, ih h2]
  by_cases hj : j = t
  ·subst hj
   have e1 : decide (j + 1 <= j) = false := decide_eq_false (by omega)
   rw [e1, Bool.false_and, decide_eq_true (Nat.le_refl j), Bool.true_and]
   have hn : j ∉ S := fun h => by have := h1 j h; omega
   cases hP : P j with
   | true => simp
   | false => simp
  ·by_cases hlt : j < t
   ·rw [decide_eq_false (show ¬ t <= j by omega), decide_eq_false (show ¬ t + 1 <= j by omega)]
    simp [show ¬ t = j from fun e => hj e.symm]
   ·have hn : t ∉ S := fun h => by have := h1 t h; omega
    rw [decide_eq_true (show t <= j by omega), decide_eq_true (show t + 1 <= j by omega)]
    simp [show ¬ t = j from fun e => hj e.symm, hn]
theorem atC (P : Nat -> Bool) (S : List Nat) (t : Nat) (h : ∀ k ∈ S, k < t) : (S.find? fun i => decide (t <= i) && P i) = none := by
 rw [List.find?_eq_none]
 intro k hk
 rw [decide_eq_false (by have := h k hk; omega)]
 simp
theorem axJ : aC prog 51 (NV yJ) := aAS AA axM yJ fun k d log l r h => ⟨30, by
 unfold yJ at h
 split at h
 ·rename_i hq
  have hq' := hq
  obtain ⟨hd, hL, hn, hl, hs, hlt⟩ := hq
  obtain rfl := Option.some.inj h
  unfold Dt
  have key := yA log 0 (fun n (_ : Unit) t => BO AA 30 k log n t d log l) (fun _ _ _ => True) (fun t _ _ => some (match (kz l).find? fun i => decide (t <= i) && (decide (((log.getD i 0).toNat : Int) = k) && fr (Dk d) log (kz l) i) with
   | some i => ((i : Int), true, d, log, l)
   | none => (0, false, d, log, l))) (fun n _ t x rest h3 h4 _ ih => ?_) (fun n _ _ => ?_) 30 () (by omega) trivial
  ·rw [key]
   unfold KN
   simp only [Nat.zero_le, decide_true, Bool.true_and]
  ·show BO AA 30 k log (n + 1) (t : Int) d log l = _
   have e82 : AA (t : Int) d log l = some (decide (t ∈ kz l) && fr (Dk d) log (kz l) t, d, log, l) := by
    unfold AA
    rw [if_pos ⟨hq', by omega, by omega⟩, Int.toNat_natCast]
   rw [BO, XU, rP h3, cond_true, rQ h3, kX, Int.toNat_natCast, h4, qM h3 (by omega), atB _ _ hs t, h4]
   have ih' := ih () trivial
   by_cases hx : (x.toNat : Int) = k
   ·rw [beq_iff_eq.2 hx, cond_true, e82, Option.bind_some, decide_eq_true hx, Bool.true_and]
    by_cases hc : t ∈ kz l /\ fr (Dk d) log (kz l) t = true
    ·rw [if_pos hc, decide_eq_true hc.1, hc.2]; rfl
    ·rw [if_neg hc]
     have : (decide (t ∈ kz l) && fr (Dk d) log (kz l) t) = false := by
      rw [Bool.and_eq_false_iff, decide_eq_false_iff_not]
      by_cases h1 : t ∈ kz l
      ·right
       cases hf : fr (Dk d) log (kz l) t with
       | false => rfl
       | true => exact absurd ⟨h1, hf⟩ hc
      ·exact .inl h1
     simp only [this, cond_false]
     exact ih'
   ·rw [beq_eq_false_iff_ne.2 hx, cond_false, decide_eq_false hx, if_neg (by simp)]
    exact ih'
  ·show BO AA 30 k log (n + 1) (log.length : Int) d log l = _
   rw [BO, XU, qL, cond_false, atC _ _ _ hlt]
 ·cases h⟩
def mQ (log : Wd) (S : List Nat) : Wd := S.map fun i => log.getD i 0
theorem Uu {log : Wd} {S : List Nat} (h : ∀ k ∈ S, k < log.length) {x : UInt8} (hx : x ∈ mQ log S) : x ∈ log := by
 obtain ⟨i, hi, rfl⟩ := List.mem_map.1 hx
 exact getD_mem (h i hi)
section
variable {D : UInt8 -> UInt8 -> Bool}
theorem atK {log : Wd} {S : List Nat} (hs : S.Pairwise (· < ·)) {x : UInt8} (hx : x ∈ mQ log S -> D x x = true) :
  (∀ i, KN D log S (x.toNat : Int) = some i -> i ∈ S /\ tk D x (mQ log S) = some (mQ log (S.erase i))) /\ (KN D log S (x.toNat : Int) = none -> tk D x (mQ log S) = none) := by
 have hxe : ∀ b : UInt8, ((b.toNat : Int) = (x.toNat : Int)) ↔ b = x := fun b => ⟨fun h => UInt8.toNat_inj.1 (by omega), fun h => by rw [h]⟩
 constructor
 ·intro i hi
  have h1 : i ∈ S := List.mem_of_find?_eq_some hi
  have h2 := List.find?_some hi
  simp only [Bool.and_eq_true, decide_eq_true_eq, hxe] at h2
  obtain ⟨h2, h3⟩ := h2
  have hxx := hx (List.mem_map.2 ⟨i, h1, h2⟩)
  refine ⟨h1, ?_⟩
  obtain ⟨u, v, rfl⟩ := List.append_of_mem h1
  have hp := List.pairwise_append.1 hs
  have hu : ∀ k ∈ u, k < i := fun k hk => hp.2.2 k hk i (by simp)
  have hiu : i ∉ u := fun h => by have := hu i h; omega
  have e1 : (u ++ i :: v).erase i = u ++ v := by
   rw [List.erase_append_right _ hiu, List.erase_cons_head]
  rw [e1]
  unfold mQ
  rw [List.map_append, List.map_cons, List.map_append, h2]
  refine QV _ _ fun z hz => ?_
  obtain ⟨k, hk, rfl⟩ := List.mem_map.1 hz
  have := List.all_eq_true.1 h3 k (by simp [hk])
  rw [decide_eq_true (hu k hk), Bool.true_and, h2] at this
  have hD : D (log.getD k 0) x = false := by simpa using this
  exact ⟨fun e => by (rw [e, hxx] at hD; cases hD), hD⟩
 ·intro hn
  cases ht : tk D x (mQ log S) with
  | none => rfl
  | some l' =>
   exfalso
   obtain ⟨u, v, e1, e2, e3⟩ := MG ht
   unfold mQ at e1
   obtain ⟨u', v', rfl, hu, hv⟩ := List.map_eq_append_iff.1 e1
   obtain ⟨i, v2, rfl, hi, rfl⟩ := List.map_eq_cons_iff.1 hv
   have := List.find?_eq_none.1 hn i (by simp)
   refine this ?_
   rw [Bool.and_eq_true, decide_eq_true_eq]
   refine ⟨by rw [hi], List.all_eq_true.2 fun k hk => ?_⟩
   have hp := List.pairwise_append.1 hs
   by_cases hki : k < i
   ·have hku : k ∈ u' := by
     rcases List.mem_append.1 hk with h | h
     ·exact h
     ·rcases List.mem_cons.1 h with h | h
      ·omega
      ·have := (List.pairwise_cons.1 hp.2.1).1 k h; omega
    have := (e3 (log.getD k 0) (by rw [<- hu]; exact List.mem_map.2 ⟨k, hku, rfl⟩)).2
    rw [hi, this, Bool.and_false]; rfl
   ·rw [decide_eq_false hki]; rfl
def pick (D : UInt8 -> UInt8 -> Bool) (ks l : Wd) : Option (UInt8 × Wd) := ks.findSome? fun x => (tk D x l).map fun l' => (x, l')
def nf (D : UInt8 -> UInt8 -> Bool) (ks : Wd) : Nat -> Wd -> Wd
 | 0, _ => []
 | n + 1, l => match pick D ks l with
  | some (x, l') => x :: nf D ks n l'
  | none => []
theorem ahI {ks l : Wd} {x : UInt8} {l' : Wd} (h : pick D ks l = some (x, l')) : x ∈ ks /\ tk D x l = some l' := by
 obtain ⟨y, hy, h2⟩ := List.exists_of_findSome?_eq_some h
 obtain ⟨l2, h3, h4⟩ := Option.map_eq_some_iff.1 h2
 cases h4
 exact ⟨hy, h3⟩
theorem pick_any {ks : Wd} {x : UInt8} {l : Wd} (hx : x ∈ ks) : ∃ y l', pick D ks (x :: l) = some (y, l') := by
 cases h : pick D ks (x :: l) with
 | some p => exact ⟨p.1, p.2, rfl⟩
 | none =>
  have := List.findSome?_eq_none_iff.1 h x hx
  simp [tk] at this
end
theorem aB' (log : Wd) (S : List Nat) : (mQ log S).length = S.length := List.length_map _
theorem ad5 {d : List Int} {log : Wd} {S : List Nat} (hv : Vp d log (Pl' S)) (hD : ∀ x ∈ log, Dk d x x = true) :
  ∀ (n : Nat) (c : Nat), c <= 103 -> 103 - c < n -> 97 <= c -> (∃ p, ((abc.drop (c - 97)).findSome? fun x => (tk (Dk d) x (mQ log S)).map fun l' => (x, l')) = some p) ->
   ∃ x i, DW yJ d log (Pl' S) n (c : Int) = some ((x.toNat : Int), ((i : Nat) : Int)) /\ pJ x /\ i ∈ S /\ tk (Dk d) x (mQ log S) = some (mQ log (S.erase i)) /\ ((abc.drop (c - 97)).findSome? fun x => (tk (Dk d) x (mQ log S)).map fun l' => (x, l')) = some (x, mQ log (S.erase i))
 | 0, c, _, h, _, _ => by omega
 | n + 1, c, h1, h2, h3, ⟨p, hp⟩ => by
  have hs : S.Pairwise (· < ·) := by have := hv.2.2.2.2.1; rwa [uU] at this
  by_cases hc : c = 103
  ·subst hc; simp [abc] at hp
  ·obtain ⟨x, hx, Z9, hdrop⟩ : ∃ x : UInt8, pJ x /\ x.toNat = c /\ abc.drop (c - 97) = x :: abc.drop (c + 1 - 97) := by
    have : c = 97 \/ c = 98 \/ c = 99 \/ c = 100 \/ c = 101 \/ c = 102 := by omega
    rcases this with rfl | rfl | rfl | rfl | rfl | rfl
    ·exact ⟨97, by decide, rfl, rfl⟩
    ·exact ⟨98, by decide, rfl, rfl⟩
    ·exact ⟨99, by decide, rfl, rfl⟩
    ·exact ⟨100, by decide, rfl, rfl⟩
    ·exact ⟨101, by decide, rfl, rfl⟩
    ·exact ⟨102, by decide, rfl, rfl⟩
   have hlt : ∀ k ∈ S, k < log.length := by have := hv.2.2.2.2.2; rwa [uU] at this
   obtain ⟨f1, f2⟩ := atK (D := Dk d) (log := log) hs (x := x) fun hm => hD x (Uu hlt hm)
   rw [hdrop, List.findSome?_cons] at hp ⊢
   simp only [DW]
   have e51 : yJ (c : Int) d log (Pl' S) = some (match KN (Dk d) log S (x.toNat : Int) with
    | some i => ((i : Int), true, d, log, Pl' S)
    | none => (0, false, d, log, Pl' S)) := by
    unfold yJ; rw [if_pos hv, uU, Z9]
   rw [e51]
   cases hf : KN (Dk d) log S (x.toNat : Int) with
   | some i =>
    obtain ⟨g1, g2⟩ := f1 i hf
    refine ⟨x, i, ?_, hx, g1, g2, ?_⟩
    ·simp only
     rw [if_pos ⟨trivial, by omega⟩, cond_true, Z9]
    ·rw [g2]; rfl
   | none =>
    have g := f2 hf
    rw [g] at hp ⊢
    simp only [Option.map_none] at hp ⊢
    rw [if_pos ⟨trivial, by omega⟩, cond_false]
    exact ad5 hv hD n (c + 1) (by omega) (by omega) (by omega) ⟨p, hp⟩
theorem Vp.erase {d : List Int} {log : Wd} {S : List Nat} (h : Vp d log (Pl' S)) (i : Nat) : Vp d log (Pl' (S.erase i)) := by
 obtain ⟨a, b, c, e, f, g⟩ := h
 rw [uU] at f g
 refine ⟨a, b, c, by rw [uU], ?_, ?_⟩
 ·rw [uU]; exact f.sublist (List.erase_sublist)
 ·rw [uU]; exact fun k hk => g k (List.mem_of_mem_erase hk)
theorem aeD {b : UInt8} (h : pJ b) : b ∈ abc := by
 have h1 : b.toNat = 97 \/ b.toNat = 98 \/ b.toNat = 99 \/ b.toNat = 100 \/ b.toNat = 101 \/ b.toNat = 102 := by unfold pJ at h; omega
 have e : ∀ c : UInt8, b.toNat = c.toNat -> b = c := fun c => UInt8.toNat_inj.1
 rcases h1 with h | h | h | h | h | h
 ·rw [e 97 h]; decide
 ·rw [e 98 h]; decide
 ·rw [e 99 h]; decide
 ·rw [e 100 h]; decide
 ·rw [e 101 h]; decide
 ·rw [e 102 h]; decide
theorem ac' {d : List Int} {log : Wd} (hD : ∀ x ∈ log, Dk d x x = true) : ∀ (n : Nat) (S : List Nat) (acc : Wd), S.length < n -> Vp d log (Pl' S) ->
  y5 yJ d log n (Pl' S) acc = some (acc ++ nf (Dk d) abc S.length (mQ log S))
 | 0, S, acc, h, _ => by omega
 | n + 1, S, acc, h, hv => by
  simp only [y5]
  cases S with
  | nil => rw [if_pos (show (Pl' []).length = 0 from rfl)]; simp [nf]
  | cons j S =>
   rw [if_neg (by simp [Pl'])]
   have hj : pJ (log.getD j 0) := hv.2.1 _ (getD_mem (hv.2.2.2.2.2 j (by rw [uU]; simp)))
   obtain ⟨y, l', hp⟩ := pick_any (D := Dk d) (l := mQ log S) (aeD hj)
   obtain ⟨x, i, h1, h2, h3, h4, h5⟩ := ad5 hv hD 300 97 (by omega) (by omega) (by omega) ⟨(y, l'), hp⟩
   rw [show ((97 : Nat) : Int) = 97 from rfl] at h1
   rw [h1]
   have hlen : ((j :: S).erase i).length + 1 = (j :: S).length := by
    have := List.length_pos_of_mem h3
    rw [List.length_erase_of_mem h3]; omega
   have e1 : rW (kt := .int .i64) (vt := .bool) (Pl' (j :: S)) ((i : Nat) : Int) = Pl' ((j :: S).erase i) := afA i _
   simp only [e1]
   rw [if_pos (by unfold Pl'; rw [List.length_map, List.length_map]; omega), ac' hD n _ _ (by simp only [List.length_cons] at hlen h ⊢; omega) (hv.erase i)]
   have e2 : pick (Dk d) abc (mQ log (j :: S)) = some (x, mQ log ((j :: S).erase i)) := h5
   rw [show (j :: S).length = ((j :: S).erase i).length + 1 from hlen.symm]
   simp only [nf, e2, List.append_assoc, List.singleton_append]
   rw [Int.toNat_natCast, UInt8.ofNat_toNat]
theorem aaM : ∀ (S : List Nat) (a n : Nat), (∀ k ∈ S, a <= k /\ k < n) -> S.Pairwise (· < ·) -> S.length <= n - a
 | [], a, n, _, _ => by simp
 | j :: S, a, n, h, hs => by
  obtain ⟨h1, h2⟩ := List.pairwise_cons.1 hs
  have hj := h j (by simp)
  have := aaM S (j + 1) n (fun k hk => ⟨by have := h1 k hk; omega, (h k (by simp [hk])).2⟩) h2
  simp only [List.length_cons]; omega
theorem akZ {d : List Int} {log : Wd} (hD : ∀ x ∈ log, Dk d x x = true) {S : List Nat} (hv : Vp d log (Pl' S)) :
  I8 yJ d log (Pl' S) = some (nf (Dk d) abc S.length (mQ log S), d, log, []) := by
 have hlen : S.length <= 20 := by
  have h1 := hv.2.2.1
  have h2 := hv.2.2.2.2.1
  have h3 := hv.2.2.2.2.2
  rw [uU] at h2 h3
  have := aaM S 0 log.length (fun k hk => ⟨Nat.zero_le k, h3 k hk⟩) h2
  omega
 unfold I8
 rw [ac' hD 1000 S [] (by omega) hv, List.nil_append]; rfl
def JF : List Int -> Wd -> Lf -> Option (List Int × Wd × Lf) := fun d log _ => if log.length <= 20 then some (d, log, Pl' (List.range log.length)) else none
theorem axI : aC prog 50 (NU JF) := aAR JF fun d log l r h => ⟨30, by
 unfold JF at h
 split at h
 ·rename_i hl
  obtain rfl := Option.some.inj h
  unfold Dq
  refine yA log 0 (fun n (s : Lf) t => BN 30 d log n t s) (fun t _ s => s = Pl' (List.range t)) (fun _ _ _ => some (d, log, Pl' (List.range log.length))) (fun n s t x rest h3 h4 hI ih => ?_) (fun n s hI => ?_) 30 [] (by omega) rfl
  ·show BN 30 d log (n + 1) (t : Int) s = _
   subst hI
   rw [BN, XT, rP h3, cond_true, qM h3 (by omega), afG t _ (by simp), <- List.range_succ]
   exact ih _ rfl
  ·show BN 30 d log (n + 1) (log.length : Int) s = _
   subst hI
   rw [BN, XT, qL, cond_false]
 ·cases h⟩
def JC : List Int -> Wd -> Option (Lf × List Int × Wd) := fun d log => if log.length <= 20 then some (Pl' (List.range log.length), d, log) else none
theorem axF : aC prog 22 (NQ JC) := aAF JF axI JC fun d log r h => ⟨0, by
 unfold JC at h
 split at h
 ·rename_i hl
  obtain rfl := Option.some.inj h
  unfold m22
  show (JF d log []).bind _ = _
  unfold JF
  rw [if_pos hl]; rfl
 ·cases h⟩
theorem aCA (log : Wd) : mQ log (List.range log.length) = log := by
 unfold mQ
 apply List.ext_getElem
 ·simp
 ·intro i h1 h2
  rw [List.getElem_map, List.getElem_range, List.getD_eq_getElem?_getD, List.getElem?_eq_getElem h2]; rfl
theorem aoZ {d : List Int} {log : Wd} (h1 : okD d) (h2 : ∀ b ∈ log, pJ b) (h3 : log.length <= 20) : Vp d log (Pl' (List.range log.length)) := by
 refine ⟨h1, h2, h3, by rw [uU], ?_, ?_⟩
 ·rw [uU]; exact List.pairwise_lt_range
 ·rw [uU]; exact fun k hk => List.mem_range.1 hk
theorem asZ {k : Int} {l : Wd} (h : DN k l = 0) : l.length <= 14 /\ ∀ b ∈ l, 97 <= (b.toNat : Int) /\ (b.toNat : Int) <= 97 + k - 1 := by
 unfold DN at h
 split at h
 ·cases h
 ·rename_i h1
  split at h
  ·rename_i h2
   refine ⟨by omega, fun b hb => ?_⟩
   have := List.all_eq_true.1 h2 b hb
   simpa using this
  ·cases h
theorem ak' {o : Of} (h : iG o = 0) {x : UInt8} (hx : 97 <= (x.toNat : Int) /\ (x.toNat : Int) <= 97 + o.1 - 1) : Dk (jV o) x x = true := by
 rw [Hw h (by omega) (by omega)]
 exact (vJ h).refl x
end Go.Proofs.YtfopcfnggdonkaaGreatDoor
