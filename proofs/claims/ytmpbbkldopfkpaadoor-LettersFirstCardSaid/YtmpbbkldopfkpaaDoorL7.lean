/-
 Count: in how many orders the letters can be opened.
-/
import Derived.Test.YtmpbbkldopfkpaaDoorL4
namespace Go.Proofs.YtmpbbkldopfkpaaDoor
open Go.RowKit
set_option linter.unusedVariables false

def Fp (D : UInt8 → UInt8 → Bool) (log : Wd) : Nat → List Nat → Nat
 | 0, _ => 1
 | n + 1, S => (S.map fun i => if fr D log S i = true then Fp D log n (S.erase i) else 0).sum
theorem sum_le {α : Type} (l : List α) (f : α → Nat) (b : Nat) (h : ∀ x ∈ l, f x ≤ b) : (l.map f).sum ≤ l.length * b := by
 induction l with
 | nil => simp
 | cons x l ih =>
  have h1 := h x (by simp)
  have h2 := ih fun y hy => h y (by simp [hy])
  simp only [List.map_cons, List.sum_cons, List.length_cons, Nat.add_mul, Nat.one_mul]; omega
theorem mem_le_sum {α : Type} {l : List α} {f : α → Nat} {x : α} (h : x ∈ l) : f x ≤ (l.map f).sum := by
 induction l with
 | nil => cases h
 | cons y l ih =>
  rcases List.mem_cons.1 h with rfl | h
  ·simp
  ·have := ih h; simp only [List.map_cons, List.sum_cons]; omega
theorem Fp_le (D : UInt8 → UInt8 → Bool) (log : Wd) : ∀ (n : Nat) (S : List Nat), S.length ≤ 14 → Fp D log n S ≤ 14 ^ n
 | 0, S, _ => by simp [Fp]
 | n + 1, S, h => by
  simp only [Fp]
  refine Nat.le_trans (sum_le S _ (14 ^ n) fun i hi => ?_) ?_
  ·split
   ·exact Fp_le D log n _ (Nat.le_trans (List.length_erase_le) h)
   ·exact Nat.zero_le _
  ·rw [Nat.pow_succ, Nat.mul_comm]; exact Nat.mul_le_mul_left _ h
theorem Fp_pos (D : UInt8 → UInt8 → Bool) (log : Wd) : ∀ (n : Nat) (S : List Nat), S.length = n → S.Pairwise (· < ·) → 1 ≤ Fp D log n S
 | 0, S, _, _ => by simp [Fp]
 | n + 1, [], h, _ => by simp at h
 | n + 1, j :: S, h, hs => by
  obtain ⟨h1, h2⟩ := List.pairwise_cons.1 hs
  simp only [Fp]
  have hf : fr D log (j :: S) j = true := List.all_eq_true.2 fun k hk => by
   have : ¬ k < j := by
    rcases List.mem_cons.1 hk with rfl | hk
    ·omega
    ·have := h1 k hk; omega
   rw [decide_eq_false this]; rfl
  have e : (j :: S).erase j = S := List.erase_cons_head ..
  refine Nat.le_trans ?_ (mem_le_sum (f := fun i => if fr D log (j :: S) i = true then Fp D log n ((j :: S).erase i) else 0) (List.mem_cons_self (a := j) (l := S)))
  simp only [hf, if_true, e]
  exact Fp_pos D log n S (by simpa using h) h2
def Rm (n m : Nat) : List Nat := (List.range n).filter fun i => !m.testBit i
theorem Rm_asc (n m : Nat) : (Rm n m).Pairwise (· < ·) := List.Pairwise.filter _ List.pairwise_lt_range
theorem mem_Rm {n m i : Nat} : i ∈ Rm n m ↔ i < n ∧ m.testBit i = false := by
 unfold Rm; rw [List.mem_filter, List.mem_range]; simp
theorem Rm_zero (n : Nat) : Rm n 0 = List.range n := by
 unfold Rm
 rw [List.filter_eq_self.2 fun i _ => by simp]
theorem Rm_erase {n m i : Nat} : Rm n (m ||| 2 ^ i) = (Rm n m).erase i := by
 rw [List.Nodup.erase_eq_filter ((Rm_asc n m).imp fun h => Nat.ne_of_lt h)]
 unfold Rm
 rw [List.filter_filter]
 congr 1
 funext j
 rw [Nat.testBit_or, Nat.testBit_two_pow]
 by_cases h : i = j
 ·subst h; simp
 ·simp [h, show ¬ j = i from fun e => h e.symm]
theorem Rm_nil {n m : Nat} (hm : m < 2 ^ n) (h : Rm n m = []) : m = 2 ^ n - 1 := by
 refine Nat.eq_of_testBit_eq fun j => ?_
 rw [Nat.testBit_two_pow_sub_one]
 by_cases hj : j < n
 ·rw [decide_eq_true hj]
  cases hb : m.testBit j with
  | true => rfl
  | false => exact absurd (mem_Rm.2 ⟨hj, hb⟩) (by rw [h]; simp)
 ·rw [decide_eq_false hj]
  exact Nat.testBit_lt_two_pow (Nat.lt_of_lt_of_le hm (Nat.pow_le_pow_right (by decide) (by omega)))
theorem sum_filter (l : List Nat) (p : Nat → Bool) (g : Nat → Nat) : ((l.filter p).map g).sum = (l.map fun i => if p i = true then g i else 0).sum := by
 induction l with
 | nil => rfl
 | cons x l ih =>
  rw [List.filter_cons]
  cases hp : p x with
  | true => simp only [if_true, List.map_cons, List.sum_cons, ih, hp]
  | false => simp [ih, hp]
section
variable (D : UInt8 → UInt8 → Bool) (log : Wd)

def Fm (m : Nat) : Nat := Fp D log (Rm log.length m).length (Rm log.length m)
def gi (m i : Nat) : Nat := if m.testBit i = false ∧ fr D log (Rm log.length m) i = true then Fm D log (m ||| 2 ^ i) else 0
theorem Fm_pos (m : Nat) : 1 ≤ Fm D log m := Fp_pos D log _ _ rfl (Rm_asc _ _)
theorem Fm_sum {m t : Nat} (ht : (Rm log.length m).length = t + 1) : Fm D log m = ((List.range' 0 log.length).map (gi D log m)).sum := by
 unfold Fm
 rw [ht]
 simp only [Fp]
 rw [show (Rm log.length m).map (fun i => if fr D log (Rm log.length m) i = true then Fp D log t ((Rm log.length m).erase i) else 0) = (Rm log.length m).map (fun i => if fr D log (Rm log.length m) i = true then Fm D log (m ||| 2 ^ i) else 0) from ?_]
 ·conv => lhs; arg 1; arg 2; unfold Rm
  rw [sum_filter, List.range_eq_range']
  congr 1
  refine List.map_congr_left fun i _ => ?_
  unfold gi
  cases m.testBit i <;> simp
 ·refine List.map_congr_left fun i hi => ?_
  unfold Fm
  rw [Rm_erase, List.length_erase_of_mem hi, ht]
  rfl
def wt (c : List (Int × Int)) : Nat := (c.map fun e => e.2.toNat * Fm D log e.1.toNat).sum
def Cok (t : Nat) (c : List (Int × Int)) : Prop := (∀ e ∈ c, ∃ m w : Nat, e = ((m : Int), (w : Int)) ∧ 1 ≤ w ∧ m < 2 ^ log.length ∧ (Rm log.length m).length + t = log.length) ∧ (c.map (·.1)).Nodup
theorem mput_keys (k v : Int) : ∀ c : List (Int × Int), (mput (kt := .int .u64) (vt := .int .i64) c k v).map (·.1) = if k ∈ c.map (·.1) then c.map (·.1) else c.map (·.1) ++ [k]
 | [] => rfl
 | p :: c => by
  show (cond (decide (k = p.1)) ((k, v) :: c) (p :: mput (kt := .int .u64) (vt := .int .i64) c k v)).map (·.1) = _
  by_cases h : k = p.1
  ·rw [decide_eq_true h, cond_true]; simp [h]
  ·rw [decide_eq_false h, cond_false, List.map_cons, mput_keys k v c]
   simp only [List.map_cons, List.mem_cons, h, false_or]
   split <;> simp
theorem mput_mem {k v : Int} : ∀ {c : List (Int × Int)} {e : Int × Int}, e ∈ mput (kt := .int .u64) (vt := .int .i64) c k v → e = (k, v) ∨ e ∈ c
 | [], e, h => .inl (List.mem_singleton.1 h)
 | p :: c, e, h => by
  have h : e ∈ cond (decide (k = p.1)) ((k, v) :: c) (p :: mput (kt := .int .u64) (vt := .int .i64) c k v) := h
  by_cases hk : k = p.1
  ·rw [decide_eq_true hk, cond_true] at h
   rcases List.mem_cons.1 h with h | h
   ·exact .inl h
   ·exact .inr (by simp [h])
  ·rw [decide_eq_false hk, cond_false] at h
   rcases List.mem_cons.1 h with h | h
   ·exact .inr (by simp [h])
   ·rcases mput_mem h with h | h
    ·exact .inl h
    ·exact .inr (by simp [h])
theorem wt_mput (k : Int) (v : Nat) : ∀ c : List (Int × Int), (∀ e ∈ c, 0 ≤ e.2) →
  ∃ u : Nat, (mget (kt := .int .u64) (vt := .int .i64) c k).getD (0 : Int) = (u : Int) ∧ u * Fm D log k.toNat ≤ wt D log c ∧ wt D log (mput (kt := .int .u64) (vt := .int .i64) c k ((u : Int) + (v : Int))) = wt D log c + v * Fm D log k.toNat
 | [], _ => ⟨0, rfl, by simp, by
   show (((0 : Nat) : Int) + (v : Int)).toNat * Fm D log k.toNat + 0 = 0 + v * Fm D log k.toNat
   rw [show (((0 : Nat) : Int) + (v : Int)).toNat = v by omega]; omega⟩
 | p :: c, h => by
  have e1 : ∀ z : Int, mput (kt := .int .u64) (vt := .int .i64) (p :: c) k z = cond (decide (k = p.1)) ((k, z) :: c) (p :: mput (kt := .int .u64) (vt := .int .i64) c k z) := fun z => rfl
  have e2 : mget (kt := .int .u64) (vt := .int .i64) (p :: c) k = cond (decide (k = p.1)) (some p.2) (mget (kt := .int .u64) (vt := .int .i64) c k) := rfl
  by_cases hk : k = p.1
  ·have hp := h p (by simp)
   refine ⟨p.2.toNat, ?_, ?_, ?_⟩
   ·rw [e2, decide_eq_true hk, cond_true]
    show p.2 = _
    omega
   ·unfold wt; simp only [List.map_cons, List.sum_cons, hk]; omega
   ·rw [e1, decide_eq_true hk, cond_true]
    unfold wt
    simp only [List.map_cons, List.sum_cons, hk]
    rw [show ((p.2.toNat : Int) + (v : Int)).toNat = p.2.toNat + v by omega, Nat.add_mul]; omega
  ·obtain ⟨u, u1, u2, u3⟩ := wt_mput k v c fun e he => h e (by simp [he])
   refine ⟨u, by rw [e2, decide_eq_false hk, cond_false]; exact u1, ?_, ?_⟩
   ·unfold wt at u2 ⊢; simp only [List.map_cons, List.sum_cons]; omega
   ·rw [e1, decide_eq_false hk, cond_false]
    unfold wt at u3 ⊢
    simp only [List.map_cons, List.sum_cons]; omega
end

theorem eachK_of {β : Type} {f : β → List β → Option Unit} {x0 : Option Unit} (l : List β) (h0 : l = [] → x0 = some ()) (h1 : ∀ u q v, l = u ++ q :: v → f q (u ++ v) = some ()) : eachK l x0 f = some () := by
 cases l with
 | nil => exact h0 rfl
 | cons p r =>
  show eachF f [] p r = some ()
  have main : ∀ (r pre : List β) (p : β), (∀ u q v, pre ++ p :: r = u ++ q :: v → f q (u ++ v) = some ()) → eachF f pre p r = some () := by
   intro r
   induction r with
   | nil => intro pre p h; simp only [eachF]; simpa using h pre p [] rfl
   | cons x r ih =>
    intro pre p h
    simp only [eachF]
    have a := h pre p (x :: r) rfl
    have b := ih (pre ++ [p]) x fun u q v e => h u q v (by rw [← e]; simp)
    rw [a, b]; rfl
  exact main r [] p fun u q v e => h1 u q v (by simpa using e)
theorem bit0_u64 {s c : Nat} (hs : s < 18446744073709551616) (hc : c ≤ 64) : ((bAnd .u64 (Int.fdiv (s : Int) (2 ^ min (Int.toNat (c : Int)) 64)) 1) == 0) = !s.testBit c := by
 rw [Int.toNat_natCast, Nat.min_eq_left hc, fdiv_pow]
 have h := bAnd_u64 (a := s / 2 ^ c) (b := 1) (Nat.lt_of_le_of_lt (Nat.div_le_self _ _) hs) (by decide)
 rw [show ((1 : Nat) : Int) = 1 from rfl] at h
 rw [h, Nat.and_one_is_mod, Nat.testBit_eq_decide_div_mod_eq]
 have : s / 2 ^ c % 2 = 0 ∨ s / 2 ^ c % 2 = 1 := by omega
 rcases this with e | e <;> rw [e] <;> rfl
theorem pow14 {n : Nat} (h : n ≤ 14) : 2 ^ n ≤ 16384 := by
 have : 2 ^ n ≤ 2 ^ 14 := Nat.pow_le_pow_right (by decide) h
 simpa using this
theorem shl_u64 {c : Nat} (h : c < 14) : IntKind.wrap .u64 (1 * 2 ^ min c 64) = ((2 ^ c : Nat) : Int) := by
 have := pow14 (n := c) (by omega)
 rw [Nat.min_eq_left (by omega), Int.one_mul, pow_cast, wrap_u64 (by omega)]
def Nd (B : Nat → Nat → Bool) (d : List Int) : Prop := d.length = 14 ∧ ∀ i, i < 14 → ∃ m : Nat, m < 16384 ∧ d.getD i 0 = (m : Int) ∧ ∀ j, m.testBit j = B i j
theorem Nd.of {B C : Nat → Nat → Bool} {d : List Int} (h : Nd B d) (e : ∀ i j, B i j = C i j) : Nd C d :=
 ⟨h.1, fun i hi => let ⟨m, a, b, c⟩ := h.2 i hi; ⟨m, a, b, fun j => (c j).trans (e i j)⟩⟩
theorem Nd.put {B : Nat → Nat → Bool} {d : List Int} (h : Nd B d) {x y : Nat} (hx : x < 14) (hy : y < 14) :
  Nd (fun i j => B i j || (decide (i = x) && decide (y = j))) (d.set x (bOr .u64 (d.getD x 0) ((2 ^ y : Nat) : Int))) := by
 obtain ⟨m, h1, h2, h3⟩ := h.2 x hx
 have hp : 2 ^ y < 2 ^ 14 := Nat.pow_lt_pow_right (by decide) hy
 have h14 : (2 : Nat) ^ 14 = 16384 := by decide
 rw [h2, bOr_u64 (by omega) (by omega)]
 refine ⟨by rw [List.length_set]; exact h.1, fun i hi => ?_⟩
 have hg : (d.set x ((m ||| 2 ^ y : Nat) : Int)).getD i 0 = if i = x then ((m ||| 2 ^ y : Nat) : Int) else d.getD i 0 := by
  rw [List.getD_eq_getElem?_getD, List.getElem?_set, List.getD_eq_getElem?_getD]
  by_cases h' : i = x
  ·subst h'; rw [if_pos rfl, if_pos (by rw [h.1]; omega), if_pos rfl]; rfl
  ·rw [if_neg (fun e => h' e.symm), if_neg h']
 rw [hg]
 by_cases hix : i = x
 ·subst hix
  refine ⟨m ||| 2 ^ y, ?_, by rw [if_pos rfl], fun j => ?_⟩
  ·rw [← h14]; exact Nat.or_lt_two_pow (by omega) hp
  ·rw [Nat.testBit_or, h3, Nat.testBit_two_pow]; simp
 ·obtain ⟨m', a1, a2, a3⟩ := h.2 i hi
  exact ⟨m', a1, by rw [if_neg hix]; exact a2, fun j => by rw [a3]; simp [hix]⟩
section
variable {o : Of} (h0 : errO o = 0) {log : Wd} (hn : log.length ≤ 14) (hw : Ls o log)
include h0 hn hw

def nb (o : Of) (log : Wd) (i k : Nat) : Bool := decide (i < log.length) && (decide (k < i) && Do o (log.getD k 0) (log.getD i 0))
omit h0 hw in
theorem need_fr {need : List Int} (hd : Nd (nb o log) need) {m i : Nat} (hm : m < 2 ^ log.length) (hi : i < log.length) :
  ((bAndNot .u64 (need.getD i 0) (m : Int)) == 0) = fr (Do o) log (Rm log.length m) i := by
 obtain ⟨q, q1, q2, q3⟩ := hd.2 i (by omega)
 have := pow14 hn
 obtain ⟨z, z1, z2, z3⟩ := andNot_u64 (a := q) (b := m) (by omega) (by omega)
 rw [q2, z2]
 have e1 : (((z : Nat) : Int) == 0) = decide (z = 0) := by
  rw [Bool.eq_iff_iff, beq_iff_eq, decide_eq_true_iff]; omega
 rw [e1, Bool.eq_iff_iff, decide_eq_true_iff]
 unfold fr
 rw [List.all_eq_true]
 constructor
 ·intro hz k hk
  have hb := z3 k
  rw [hz, Nat.zero_testBit, q3, (mem_Rm.1 hk).2, Bool.not_false, Bool.and_true] at hb
  unfold nb at hb
  rw [decide_eq_true hi, Bool.true_and] at hb
  rw [← hb]; rfl
 ·intro hall
  refine Nat.eq_of_testBit_eq fun j => ?_
  rw [Nat.zero_testBit, z3, q3]
  unfold nb
  rw [decide_eq_true hi, Bool.true_and]
  cases hmj : m.testBit j with
  | true => rw [Bool.not_true, Bool.and_false]
  | false =>
   rw [Bool.not_false, Bool.and_true]
   by_cases hji : j < i
   ·have := hall j (mem_Rm.2 ⟨by omega, hmj⟩)
    rw [decide_eq_true hji, Bool.true_and] at this ⊢
    simpa using this
   ·rw [decide_eq_false hji, Bool.false_and]
omit h0 hn hw in
theorem wt_cut (D : UInt8 → UInt8 → Bool) (u v : List (Int × Int)) (m w : Nat) : wt D log (u ++ ((m : Int), (w : Int)) :: v) = wt D log (u ++ v) + w * Fm D log m := by
 unfold wt
 simp only [List.map_append, List.map_cons, List.sum_append, List.sum_cons, Int.toNat_natCast]; omega
omit h0 hw in
theorem round18 {need : List Int} (hd : Nd (nb o log) need) {a41 : Of → List Wd → Option (List Int × Int)} {a49 : List Int → Int → Int → Option Bool} (w0 w1 : Int) (N t : Nat) (ht : t < log.length) (hN : 20 ≤ N) (T : Nat) (hT : T ≤ 14 ^ 14)
  (rec : Int → List (Int × Int) → Option Unit) (hrec : ∀ nx, Cok log (t + 1) nx → wt (Do o) log nx = T → rec ((t + 1 : Nat) : Int) nx = some ()) :
  ∀ (n : Nat) (rest nx : List (Int × Int)), rest.length < n → Cok log t rest → Cok log (t + 1) nx → wt (Do o) log nx + wt (Do o) log rest = T →
   l18d a41 a49 w0 w1 N log [need] (t : Int) rec n nx rest = some ()
 | 0, rest, nx, h, _, _, _ => by omega
 | n + 1, rest, nx, h, hr, hx, hT2 => by
  rw [l18d]
  refine eachK_of rest (fun he => ?_) fun u q v he => ?_
  ·rw [w64_succ (by omega)]
   refine hrec nx hx ?_
   rw [← hT2, he]; rfl
  ·obtain ⟨m, w, hq, hw1, hm, hlen⟩ := hr.1 q (by rw [he]; simp)
   subst hq
   subst he
   have hsub : (u ++ v).Sublist (u ++ ((m : Int), (w : Int)) :: v) := by simp
   have hr' : Cok log t (u ++ v) := ⟨fun e he' => hr.1 e (hsub.mem he'), hr.2.sublist (hsub.map _)⟩
   have hp := pow14 hn
   rw [wt_cut] at hT2
   have hF := Fm_sum (Do o) log (m := m) (t := log.length - t - 1) (by omega)
   have h1414 : (14 : Nat) ^ 14 = 11112006825558016 := by decide
   refine rangeP log 0 (fun k (s : List (Int × Int)) i => l18e a41 a49 w0 w1 N log [need] (t : Int) ((m : Int), (w : Int)) (u ++ v) (fun y0 y1 => l18d a41 a49 w0 w1 N log [need] (t : Int) rec n y0 y1) k i s)
    (fun i _ s => Cok log (t + 1) s ∧ wt (Do o) log s + w * ((List.range' i (log.length - i)).map (gi (Do o) log m)).sum + wt (Do o) log (u ++ v) = T) (fun r => r = some ()) (fun k s i x rr q1 q2 _ hI ih => ?_) (fun k s hI => ?_) N nx (by omega) ⟨hx, by rw [Nat.sub_zero, ← hF]; omega⟩
   ·obtain ⟨hs, hsum⟩ := hI
    have hi14 : i < 14 := by omega
    have hpi := pow14 (n := i) (by omega)
    rw [range'_step q1, List.map_cons, List.sum_cons, Nat.mul_add] at hsum
    show l18e a41 a49 w0 w1 N log [need] (t : Int) ((m : Int), (w : Int)) (u ++ v) (fun y0 y1 => l18d a41 a49 w0 w1 N log [need] (t : Int) rec n y0 y1) (k + 1) (i : Int) s = some ()
    rw [l18e, ixA q1, cond_true, chk_dec (by omega), ixW q1 (by omega)]
    simp only [List.getD_cons_zero]
    rw [bit0_u64 (by omega) (by omega), Int.toNat_natCast, chk_dec (by omega), need_fr hn hd hm q1, shl_u64 hi14, bOr_u64 (by omega) (by omega), chk_dec (by omega)]
    cases hb : m.testBit i with
    | true =>
     rw [Bool.not_true, cond_false]
     refine ih s ⟨hs, ?_⟩
     have : gi (Do o) log m i = 0 := by unfold gi; rw [if_neg (by simp [hb])]
     rw [this] at hsum; omega
    | false =>
     rw [Bool.not_false, cond_true]
     cases hf : fr (Do o) log (Rm log.length m) i with
     | false =>
      rw [cond_false]
      refine ih s ⟨hs, ?_⟩
      have : gi (Do o) log m i = 0 := by unfold gi; rw [if_neg (by simp [hf])]
      rw [this] at hsum; omega
     | true =>
      rw [cond_true]
      have hg : gi (Do o) log m i = Fm (Do o) log (m ||| 2 ^ i) := by unfold gi; rw [if_pos ⟨hb, hf⟩]
      rw [hg] at hsum
      have hFp := Fm_pos (Do o) log (m ||| 2 ^ i)
      obtain ⟨z, z1, z2, z3⟩ := wt_mput (Do o) log ((m ||| 2 ^ i : Nat) : Int) w s fun e he' => by
       obtain ⟨m', w', rfl, _⟩ := hs.1 e he'
       exact Int.natCast_nonneg _
      rw [Int.toNat_natCast] at z2 z3
      have hz : z ≤ T := by
       have : z ≤ z * Fm (Do o) log (m ||| 2 ^ i) := Nat.le_mul_of_pos_right z hFp
       omega
      have hwT : w ≤ T := by
       have : w ≤ w * Fm (Do o) log (m ||| 2 ^ i) := Nat.le_mul_of_pos_right w hFp
       omega
      rw [z1, w64_eq (by omega) (by omega)]
      refine ih _ ⟨⟨fun e he' => ?_, ?_⟩, by rw [z3]; omega⟩
      ·rcases mput_mem he' with rfl | he'
       ·refine ⟨m ||| 2 ^ i, z + w, by rw [Int.natCast_add], by omega, Nat.or_lt_two_pow hm (Nat.pow_lt_pow_right (by decide) q1), ?_⟩
        rw [Rm_erase, List.length_erase_of_mem (mem_Rm.2 ⟨q1, hb⟩)]
        have : 0 < (Rm log.length m).length := List.length_pos_of_mem (mem_Rm.2 ⟨q1, hb⟩)
        omega
       ·exact hs.1 e he'
      ·rw [mput_keys]
       split
       ·exact hs.2
       ·rename_i hk
        rw [List.nodup_append]
        refine ⟨hs.2, by simp, fun a ha b hb' => ?_⟩
        obtain rfl := List.mem_singleton.1 hb'
        exact fun e => hk (e ▸ ha)
   ·obtain ⟨hs, hsum⟩ := hI
    show l18e a41 a49 w0 w1 N log [need] (t : Int) ((m : Int), (w : Int)) (u ++ v) (fun y0 y1 => l18d a41 a49 w0 w1 N log [need] (t : Int) rec n y0 y1) (k + 1) (log.length : Int) s = some ()
    rw [l18e, ixE, cond_false]
    refine round18 hd w0 w1 N t ht hN T hT rec hrec n (u ++ v) s ?_ hr' hs ?_
    ·simp only [List.length_append, List.length_cons] at h ⊢; omega
    ·rw [Nat.sub_self] at hsum
     simpa using hsum
omit h0 hn hw in
theorem wt_len {D : UInt8 → UInt8 → Bool} {t : Nat} {c : List (Int × Int)} (h : Cok log t c) : c.length ≤ wt D log c := by
 replace h := h.1
 induction c with
 | nil => simp
 | cons e c ih =>
  obtain ⟨m, w, rfl, h1, _⟩ := h e (by simp)
  have h2 := ih fun x hx => h x (List.mem_cons_of_mem _ hx)
  have h3 := Fm_pos D log m
  have h4 : 1 ≤ w * Fm D log m := Nat.mul_pos (by omega) h3
  unfold wt at h2 ⊢
  simp only [List.map_cons, List.sum_cons, List.length_cons, Int.toNat_natCast]; omega
omit h0 hn hw in
theorem last18 {D : UInt8 → UInt8 → Bool} {c : List (Int × Int)} (h : Cok log log.length c) (hT : 1 ≤ wt D log c) :
  mget (kt := .int .u64) (vt := .int .i64) c ((2 ^ log.length - 1 : Nat) : Int) = some ((wt D log c : Nat) : Int) := by
 obtain ⟨h1, h2⟩ := h
 have key : ∀ e ∈ c, ∃ w : Nat, e = (((2 ^ log.length - 1 : Nat) : Int), (w : Int)) ∧ Fm D log (2 ^ log.length - 1) = 1 := fun e he => by
  obtain ⟨m, w, rfl, _, hm, hl⟩ := h1 e he
  have hnil : Rm log.length m = [] := List.eq_nil_of_length_eq_zero (by omega)
  have := Rm_nil hm hnil
  subst this
  exact ⟨w, rfl, by unfold Fm; rw [hnil]; rfl⟩
 match c, h2, key with
 | [], _, _ => simp [wt] at hT
 | [e], _, key =>
  obtain ⟨w, rfl, hF⟩ := key e (by simp)
  show cond (decide (_ = _)) _ _ = _
  rw [decide_eq_true rfl, cond_true]
  unfold wt
  simp only [List.map_cons, List.map_nil, List.sum_cons, List.sum_nil, Int.toNat_natCast, hF]
  simp
 | e :: e' :: r, h2, key =>
  obtain ⟨w, rfl, _⟩ := key e (by simp)
  obtain ⟨w', rfl, _⟩ := key e' (by simp)
  simp at h2
omit h0 hn hw in
theorem mask14 {n : Nat} (hn : n ≤ 14) : IntKind.wrap .u64 (IntKind.wrap .u64 (1 * 2 ^ min (Int.toNat (n : Int)) 64) - 1) = ((2 ^ n - 1 : Nat) : Int) := by
 have h2 := pow14 hn
 have h3 : 1 ≤ 2 ^ n := Nat.one_le_two_pow
 rw [Int.toNat_natCast, Nat.min_eq_left (by omega), Int.one_mul, pow_cast, wrap_u64 (by omega), show ((2 ^ n : Nat) : Int) - 1 = ((2 ^ n - 1 : Nat) : Int) by omega, wrap_u64 (by omega)]
omit h0 hw in
theorem rounds18 {need : List Int} (hd : Nd (nb o log) need) (N : Nat) (hN : 30 + Fm (Do o) log 0 ≤ N) : ∀ {a41 : Of → List Wd → Option (List Int × Int)} {a49 : List Int → Int → Int → Option Bool},
  l18c a41 a49 ((Fm (Do o) log 0 : Nat) : Int) 0 N log [need] N 0 (mput (kt := .int .u64) (vt := .int .i64) [] 0 1) = some () := by
 intro a41 a49
 have hT : Fm (Do o) log 0 ≤ 14 ^ 14 := by
  unfold Fm
  refine Nat.le_trans (Fp_le _ _ _ _ ?_) (Nat.pow_le_pow_right (by decide) ?_)
  ·rw [Rm_zero, List.length_range]; exact hn
  ·rw [Rm_zero, List.length_range]; exact hn
 have hpos := Fm_pos (Do o) log 0
 refine rangeP log 0 (fun k (c : List (Int × Int)) t => l18c a41 a49 ((Fm (Do o) log 0 : Nat) : Int) 0 N log [need] k t c) (fun t _ c => Cok log t c ∧ wt (Do o) log c = Fm (Do o) log 0) (fun r => r = some ()) (fun k c t x rr q1 q2 _ hI ih => ?_) (fun k c hI => ?_) N _ (by omega) ⟨⟨fun e he => ?_, ?_⟩, ?_⟩
 ·show l18c a41 a49 ((Fm (Do o) log 0 : Nat) : Int) 0 N log [need] (k + 1) (t : Int) c = some ()
  obtain ⟨hc, hwt⟩ := hI
  rw [l18c, ixA q1, cond_true]
  refine round18 hn hd _ _ N t q1 (by omega) (Fm (Do o) log 0) hT _ (fun nx a b => ih nx ⟨a, b⟩) N c [] ?_ hc ⟨fun e he => (by cases he), (by simp)⟩ (by rw [hwt]; simp [wt])
  have := wt_len (D := Do o) hc
  omega
 ·show l18c a41 a49 ((Fm (Do o) log 0 : Nat) : Int) 0 N log [need] (k + 1) (log.length : Int) c = some ()
  obtain ⟨hc, hwt⟩ := hI
  rw [l18c, ixE, cond_false, chk_dec (by omega), mask14 hn, last18 (D := Do o) hc (by omega), hwt]
  simp [chk]
 ·have he : e ∈ [((0 : Int), (1 : Int))] := he
  obtain rfl := List.mem_singleton.1 he
  refine ⟨0, 1, rfl, Nat.le_refl 1, Nat.two_pow_pos _, ?_⟩
  rw [Rm_zero, List.length_range]; omega
 ·show ([(0 : Int)]).Nodup
  simp
 ·show (1 : Int).toNat * Fm (Do o) log (0 : Int).toNat + 0 = _
  simp
theorem needs18 (N : Nat) (hN : 30 + Fm (Do o) log 0 ≤ N) (r1 : List Int × Int) (hr : r1.1 = deskO o) :
  l18a C41 B49 ((Fm (Do o) log 0 : Nat) : Int) 0 N log r1 N 0 [[0, 0, 0, 0, 0, 0, 0, 0, 0, 0, 0, 0, 0, 0]] = some () := by
 have hL := hw.isL h0
 refine rangeP log 0 (fun k (s : List (List Int)) t => l18a C41 B49 ((Fm (Do o) log 0 : Nat) : Int) 0 N log r1 k t s) (fun t _ s => ∃ need, s = [need] ∧ Nd (fun i k => decide (i < t) && nb o log i k) need) (fun r => r = some ()) (fun k s t x rr q1 q2 _ hI ih => ?_) (fun k s hI => ?_) N _ (by omega) ⟨_, rfl, rfl, fun i hi => ⟨0, by decide, ?_, fun j => ?_⟩⟩
 ·show l18a C41 B49 ((Fm (Do o) log 0 : Nat) : Int) 0 N log r1 (k + 1) (t : Int) s = some ()
  obtain ⟨need, rfl, hd⟩ := hI
  rw [l18a, ixA q1, cond_true]
  refine countP' 0 (t : Int) (by omega) (fun m (s : List (List Int)) y => l18b C41 B49 ((Fm (Do o) log 0 : Nat) : Int) 0 N log r1 (t : Int) (fun y0 y1 => l18a C41 B49 ((Fm (Do o) log 0 : Nat) : Int) 0 N log r1 k y0 y1) m y s) (fun y s => 0 ≤ y ∧ ∃ need, s = [need] ∧ Nd (fun i k => (decide (i < t) && nb o log i k) || (decide (i = t) && (decide ((k : Int) < y) && nb o log t k))) need) (fun r => r = some ()) (fun m s y y0 y1 hI jh => ?_) (fun m s hI => ?_) N _ (by omega) ⟨by omega, need, rfl, hd.of fun i j => ?_⟩
  ·show l18b C41 B49 ((Fm (Do o) log 0 : Nat) : Int) 0 N log r1 (t : Int) (fun y0 y1 => l18a C41 B49 ((Fm (Do o) log 0 : Nat) : Int) 0 N log r1 k y0 y1) (m + 1) y s = some ()
   obtain ⟨_, need, rfl, hd⟩ := hI
   obtain ⟨y, rfl⟩ : ∃ z : Nat, y = (z : Int) := ⟨y.toNat, by omega⟩
   have hyt : y < t := by omega
   have hyn : log.getD y 0 ∈ log := getD_mem (by omega)
   have htn : log.getD t 0 ∈ log := getD_mem q1
   have hnb : nb o log t y = Do o (log.getD y 0) (log.getD t 0) := by unfold nb; rw [decide_eq_true q1, decide_eq_true hyt, Bool.true_and, Bool.true_and]
   rw [l18b, decide_eq_true (show (y : Int) < t by omega), cond_true, chk_dec (by omega), chk_dec (by omega), hr]
   simp only [Int.toNat_natCast, List.getD_cons_zero, List.set_cons_zero]
   rw [B49_of (deskO_ok o) (hL _ hyn) (hL _ htn), Option.bind_some, Dk_Do h0 hw _ hyn _ htn, w64_succ (by omega), chk_dec (by omega), chk_dec (by omega), chk_dec (by omega), decide_eq_true (show t < need.length by rw [hd.1]; omega), Bool.true_and, chk_true, shl_u64 (by omega)]
   cases hb : Do o (log.getD y 0) (log.getD t 0) with
   | true =>
    rw [cond_true]
    refine jh _ ⟨by omega, _, rfl, (hd.put (x := t) (y := y) (by omega) (by omega)).of fun i j => ?_⟩
    by_cases hi : i = t
    ·subst hi
     simp only [decide_true, Bool.true_and, Nat.lt_irrefl, decide_false, Bool.false_and, Bool.false_or]
     by_cases hj : y = j
     ·subst hj
      rw [hnb, hb]
      simp only [decide_true, Bool.or_true, Bool.and_true]
      exact (decide_eq_true (by omega)).symm
     ·rw [decide_eq_false hj, Bool.or_false]
      congr 1
      exact decide_eq_decide.2 (by omega)
    ·simp [hi]
   | false =>
    rw [cond_false]
    refine jh _ ⟨by omega, _, rfl, hd.of fun i j => ?_⟩
    by_cases hi : i = t
    ·subst hi
     simp only [decide_true, Bool.true_and, Nat.lt_irrefl, decide_false, Bool.false_and, Bool.false_or]
     by_cases hj : j = y
     ·subst hj
      rw [hnb, hb, Bool.and_false, Bool.and_false]
     ·congr 1
      exact decide_eq_decide.2 (by omega)
    ·simp [hi]
  ·show l18b C41 B49 ((Fm (Do o) log 0 : Nat) : Int) 0 N log r1 (t : Int) (fun y0 y1 => l18a C41 B49 ((Fm (Do o) log 0 : Nat) : Int) 0 N log r1 k y0 y1) (m + 1) (t : Int) s = some ()
   obtain ⟨_, need, rfl, hd⟩ := hI
   rw [l18b, decide_eq_false (by omega), cond_false, w64_succ (by omega)]
   refine ih _ ⟨need, rfl, hd.of fun i j => ?_⟩
   by_cases hi : i = t
   ·subst hi
    rw [decide_eq_false (by omega), decide_eq_true rfl, decide_eq_true (show i < i + 1 by omega), Bool.false_and, Bool.false_or, Bool.true_and, Bool.true_and]
    by_cases hj : (j : Int) < i
    ·rw [decide_eq_true hj, Bool.true_and]
    ·have : nb o log i j = false := by unfold nb; rw [decide_eq_false (show ¬ j < i by omega), Bool.false_and, Bool.and_false]
     rw [this, Bool.and_false]
   ·rw [decide_eq_false hi, Bool.false_and, Bool.or_false]
    congr 1
    exact decide_eq_decide.2 (by omega)
  ·rw [decide_eq_false (show ¬ (j : Int) < 0 by omega), Bool.false_and, Bool.and_false, Bool.or_false]
 ·show l18a C41 B49 ((Fm (Do o) log 0 : Nat) : Int) 0 N log r1 (k + 1) (log.length : Int) s = some ()
  obtain ⟨need, rfl, hd⟩ := hI
  rw [l18a, ixE, cond_false]
  refine rounds18 hn (hd.of fun i j => ?_) N hN
  unfold nb
  by_cases hi : i < log.length
  ·rw [decide_eq_true hi, Bool.true_and]
  ·rw [decide_eq_false hi, Bool.false_and, Bool.false_and]
 ·have : ∀ i, i < 14 → ([0, 0, 0, 0, 0, 0, 0, 0, 0, 0, 0, 0, 0, 0] : List Int).getD i 0 = 0 := by decide
  rw [this i hi]; rfl
 ·show Nat.testBit 0 j = (decide (i < 0) && nb o log i j)
  rw [Nat.zero_testBit, decide_eq_false (by omega), Bool.false_and]
end

def B18 : Of → Wd → Option (Int × Int) := fun o l => some (if errA o [l] = 0 then ((Fp (Do o) l l.length (List.range l.length) : Nat), 0) else (0, errA o [l]))
theorem kb18 : FnOk Tryd.prog 18 (F18 B18) := ok18 C41 B49 kc41 kb49 B18 fun o l r h => by
 obtain rfl := Option.some.inj h
 refine ⟨30 + Fm (Do o) l 0, ?_⟩
 unfold m18
 by_cases he : errA o [l] = 0
 ·obtain ⟨h1, h2⟩ := errA_word he (l := l) (by simp)
  have h0 := (errA_zero he).1
  have hF : Fp (Do o) l l.length (List.range l.length) = Fm (Do o) l 0 := by unfold Fm; rw [Rm_zero, List.length_range]
  rw [C41_good (by simp) he, if_pos he, Option.bind_some, hF]
  show cond false _ _ = _
  rw [cond_false]
  exact needs18 h0 h1 h2 _ (Nat.le_refl _) (deskO o, 0) rfl
 ·obtain ⟨d, hd⟩ := C41_bad (ls := [l]) (by simp) he
  rw [hd, if_neg he, Option.bind_some]
  have : (errA o [l] != 0) = true := by simpa using he
  simp only [this, cond_true]
  simp [chk]
end Go.Proofs.YtmpbbkldopfkpaaDoor
