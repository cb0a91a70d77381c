/-
 Sort, and the steps of a log.
-/
import Derived.Test.YtmpbbkldopfkpaaDoorL5
import Derived.Test.YtmpbbkldopfkpaaDoorQM16
namespace Go.Proofs.YtmpbbkldopfkpaaDoor
open Go.RowKit
set_option linter.unusedVariables false

theorem kb98 : FnOk Tryd.prog 98 (F98 fun _ => some false) := ok98 _ fun x r h => ⟨0, by
 obtain rfl := Option.some.inj h
 unfold m98; simp⟩
theorem kb81 : FnOk Tryd.prog 81 (F81 fun x y => some (decide (x < y))) := ok81 _ kb98 _ fun x y r h => ⟨0, by
 obtain rfl := Option.some.inj h
 rfl⟩
def Ord (a : List Int) (i j : Nat) : Prop := ∀ x y, x < y → y ≤ i → y ≠ j → a.getD x 0 ≤ a.getD y 0
def Srt (a : List Int) (i : Nat) : Prop := ∀ x y, x < y → y < i → a.getD x 0 ≤ a.getD y 0
theorem getD_seti {a : List Int} {x z : Nat} {b : Int} (hx : x < a.length) : (a.set x b).getD z 0 = if z = x then b else a.getD z 0 := by
 rw [List.getD_eq_getElem?_getD, List.getElem?_set, List.getD_eq_getElem?_getD]
 by_cases h : z = x
 ·subst h; rw [if_pos rfl, if_pos hx, if_pos rfl]; rfl
 ·rw [if_neg (fun e => h e.symm), if_neg h]
theorem swap_perm {a : List Int} {i j : Nat} (hi : i < a.length) (hj : j < a.length) : List.Perm ((a.set i (a.getD j 0)).set j (a.getD i 0)) a := by
 have := @List.set_set_perm Int a i j hi hj
 rw [List.getD_eq_getElem?_getD, List.getElem?_eq_getElem hj, List.getD_eq_getElem?_getD, List.getElem?_eq_getElem hi]
 exact this
theorem swap_ord {a : List Int} {i j : Nat} (hi : i < a.length) (hj : 0 < j) (hji : j ≤ i) (h : Ord a i j) (hlt : a.getD j 0 < a.getD (j - 1) 0) : Ord ((a.set j (a.getD (j - 1) 0)).set (j - 1) (a.getD j 0)) i (j - 1) := by
 intro x y hxy hyi hy
 have g : ∀ z, ((a.set j (a.getD (j - 1) 0)).set (j - 1) (a.getD j 0)).getD z 0 = if z = j - 1 then a.getD j 0 else if z = j then a.getD (j - 1) 0 else a.getD z 0 := fun z => by
  rw [getD_seti (by rw [List.length_set]; omega), getD_seti (by omega)]
 rw [g x, g y, if_neg hy]
 by_cases hyj : y = j
 ·subst hyj
  rw [if_pos rfl]
  by_cases hx : x = y - 1
  ·rw [if_pos hx]; omega
  ·rw [if_neg hx, if_neg (by omega)]
   exact h x (y - 1) (by omega) (by omega) (by omega)
 ·rw [if_neg hyj]
  by_cases hx : x = j - 1
  ·rw [if_pos hx]; exact h j y (by omega) hyi hyj
  ·rw [if_neg hx]
   by_cases hxj : x = j
   ·rw [if_pos hxj]; exact h (j - 1) y (by omega) hyi hyj
   ·rw [if_neg hxj]; exact h x y hxy hyi hyj
theorem insert75 (p : List Int) (N : Nat) (rec : Int → List Int → Option (List Int)) (i : Nat) (b : Int) (P : Option (List Int) → Prop) (hi : i < p.length) (hlen : p.length ≤ 1000)
  (hrec : ∀ a, List.Perm a p → Srt a (i + 1) → P (rec ((i + 1 : Nat) : Int) a)) :
  ∀ (n j : Nat) (a : List Int), j < n → j ≤ i → List.Perm a p → Ord a i j → P (l75cb (fun x y => some (decide (x < y))) N 0 b (i : Int) rec n (j : Int) a)
 | 0, j, a, h, _, _, _ => by omega
 | n + 1, j, a, h, hj, hp, ho => by
  have hl : a.length = p.length := hp.length_eq
  rw [l75cb]
  by_cases hj0 : 0 < j
  ·rw [decide_eq_true (by omega), cond_true, chk_dec (by omega), w64_eq (by omega) (by omega), chk_dec (by omega), Option.bind_some, show ((j : Int) - 1) = ((j - 1 : Nat) : Int) by omega, Int.toNat_natCast, Int.toNat_natCast]
   by_cases hlt : a.getD j 0 < a.getD (j - 1) 0
   ·rw [decide_eq_true hlt, cond_true, chk_dec (by omega), chk_dec (by omega), chk_dec (by omega), chk_dec (by rw [List.length_set]; omega)]
    exact insert75 p N rec i b P hi hlen hrec n (j - 1) _ (by omega) (by omega) ((swap_perm (by omega) (by omega)).trans hp) (swap_ord (by omega) hj0 hj ho hlt)
   ·rw [decide_eq_false hlt, cond_false, w64_succ (by omega)]
    refine hrec a hp fun x y hxy hy => ?_
    by_cases hyj : y = j
    ·subst hyj
     by_cases hx : x = y - 1
     ·subst hx; omega
     ·have := ho x (y - 1) (by omega) (by omega) (by omega)
      omega
    ·exact ho x y hxy (by omega) hyj
  ·rw [decide_eq_false (by omega), cond_false, w64_succ (by omega)]
   exact hrec a hp fun x y hxy hy => ho x y hxy (by omega) (by omega)
theorem sort75 (p : List Int) (N : Nat) (hlen : p.length ≤ 1000) (hN : p.length + 2 ≤ N) : ∀ (n i : Nat) (a : List Int), p.length + 1 < n + i → i ≤ p.length + 1 → List.Perm a p → Srt a i → ∃ q, l75ca (fun x y => some (decide (x < y))) N 0 (p.length : Int) n (i : Int) a = some q ∧ List.Perm q p ∧ Srt q p.length
 | 0, i, a, h, h1, hp, hs => by
  omega
 | n + 1, i, a, h, h1, hp, hs => by
  rw [l75ca]
  by_cases hi : i < p.length
  ·rw [decide_eq_true (by omega), cond_true]
   refine insert75 p N _ i _ (fun r => ∃ q, r = some q ∧ List.Perm q p ∧ Srt q p.length) hi hlen (fun a' hp' hs' => sort75 p N hlen hN n (i + 1) a' (by omega) (by omega) hp' hs') N i a (by omega) (Nat.le_refl i) hp fun x y hxy hy hyi => hs x y hxy (by omega)
  ·rw [decide_eq_false (by omega), cond_false]
   exact ⟨a, rfl, hp, fun x y hxy hy => hs x y hxy (by omega)⟩
theorem Srt.pairwise {a : List Int} (h : Srt a a.length) : a.Pairwise (· ≤ ·) := by
 rw [List.pairwise_iff_getElem]
 intro i j hi hj hij
 have := h i j hij hj
 rw [List.getD_eq_getElem?_getD, List.getElem?_eq_getElem hi, List.getD_eq_getElem?_getD, List.getElem?_eq_getElem hj] at this
 exact this
def csW (w : Wd) : Wd := abc.flatMap fun x => w.filter (· == x)
theorem csW_perm {w : Wd} (h : ∀ b ∈ w, isL b) : List.Perm (csW w) w := by
 rw [List.perm_iff_count]
 intro a
 unfold csW
 rw [List.count_flatMap]
 have e : ∀ x, (List.count a ∘ fun x => w.filter (· == x)) x = if x = a then w.count a else 0 := fun x => by
  show List.count a (w.filter (· == x)) = _
  by_cases hx : x = a
  ·subst hx; rw [if_pos rfl, List.count_filter (by simp)]
  ·rw [if_neg hx]
   refine List.count_eq_zero.2 fun hm => ?_
   have := (List.mem_filter.1 hm).2
   exact hx (beq_iff_eq.1 this).symm
 rw [List.map_congr_left fun x _ => e x]
 by_cases ha : a ∈ w
 ·have hm := isL_abc (h a ha)
  have main : ∀ l : Wd, l.Nodup → a ∈ l → (l.map fun x => if x = a then w.count a else 0).sum = w.count a := by
   intro l
   induction l with
   | nil => intro _ h; cases h
   | cons y l ih =>
    intro hn hm
    obtain ⟨n1, n2⟩ := List.nodup_cons.1 hn
    rw [List.map_cons, List.sum_cons]
    by_cases hy : y = a
    ·subst hy
     rw [if_pos rfl]
     have : (l.map fun x => if x = y then w.count y else 0).sum = 0 := by
      have : ∀ l : Wd, y ∉ l → (l.map fun x => if x = y then w.count y else 0).sum = 0 := by
       intro l
       induction l with
       | nil => intro _; rfl
       | cons z l ih =>
        intro hz
        rw [List.map_cons, List.sum_cons, if_neg fun e => hz (by simp [e]), ih fun hm => hz (by simp [hm])]
      exact this l n1
     rw [this]; omega
    ·rw [if_neg hy, Nat.zero_add]
     rcases List.mem_cons.1 hm with e | e
     ·exact absurd e.symm hy
     ·exact ih n2 e
  exact main abc (by decide) hm
 ·have h0 : w.count a = 0 := List.count_eq_zero.2 ha
  rw [h0]
  simp [abc]
theorem csW_asc (w : Wd) : (bytesI (csW w)).Pairwise (· ≤ ·) := by
 unfold bytesI csW
 rw [List.pairwise_map, List.pairwise_flatMap]
 constructor
 ·intro x _
  refine List.Pairwise.imp_of_mem (R := fun _ _ => True) (fun {a b} ha hb _ => ?_) (List.pairwise_of_forall fun _ _ => trivial)
  have h1 := beq_iff_eq.1 (List.mem_filter.1 ha).2
  have h2 := beq_iff_eq.1 (List.mem_filter.1 hb).2
  rw [h1, h2]; exact Int.le_refl _
 ·have : abc.Pairwise fun x y => x.toNat ≤ y.toNat := by decide
  refine this.imp fun {x y} hxy a ha b hb => ?_
  have h1 := beq_iff_eq.1 (List.mem_filter.1 ha).2
  have h2 := beq_iff_eq.1 (List.mem_filter.1 hb).2
  rw [h1, h2]; omega
theorem bytesI_perm {a b : Wd} (h : List.Perm a b) : List.Perm (bytesI a) (bytesI b) := h.map _
def B47 : List Int → Option (List Int) := fun p => if p.length ≤ 12 ∧ p = bytesI (toBytes p) ∧ ∀ b ∈ toBytes p, isL b then some (bytesI (csW (toBytes p))) else none
theorem lens : ((List.range 13).all fun n => (m66 (m85 0) 0 (IntKind.wrap .u64 (n : Int))).isSome) = true := by kernel_rfl
theorem kb85 : FnOk Tryd.prog 85 (F85 (m85 0)) := ok85 _ fun x r h => ⟨0, h⟩
theorem kb66 : FnOk Tryd.prog 66 (F66 (m66 (m85 0) 0)) := ok66 _ kb85 _ fun x r h => ⟨0, h⟩
def B75 : Int → Int → List Int → Option (List Int) := fun a b p => m75c (fun x y => some (decide (x < y))) 1100 a b p
theorem kb75 : FnOk Tryd.prog 75 (F75c B75) := ok75c _ kb81 B75 fun a b p r h => ⟨1100, h⟩
def B65 : Int → Int → Int → List Int → Option (List Int) := fun a b l p => m65c B75 1 a b l p
theorem kb65 : FnOk Tryd.prog 65 (F65c B65) := ok65c _ kb75 B65 fun a b l p r h => ⟨1, h⟩
theorem kb47 : FnOk Tryd.prog 47 (F47c B47) := ok47c B65 (m66 (m85 0) 0) kb65 kb66 B47 fun p r h => ⟨0, by
 unfold B47 at h
 split at h
 ·rename_i hq
  obtain ⟨hl, hb, hL⟩ := hq
  obtain rfl := Option.some.inj h
  unfold m47c
  obtain ⟨z, hz⟩ := Option.isSome_iff_exists.1 (List.all_eq_true.1 lens p.length (List.mem_range.2 (by omega)))
  rw [hz, Option.bind_some]
  obtain ⟨q, q1, q2, q3⟩ := sort75 p 1100 (by omega) (by omega) 1100 1 p (by omega) (by omega) (List.Perm.refl p) fun x y hxy hy => by omega
  have e1 : B65 0 (p.length : Int) z p = some q := by
   unfold B65 m65c
   rw [l65ca, w64_eq (by omega) (by omega), decide_eq_true (by omega), cond_true]
   unfold B75 m75c
   rw [show w64 ((0 : Int) + 1) = ((1 : Nat) : Int) by rw [w64_eq (by omega) (by omega)]; rfl, q1]; rfl
  rw [e1, Option.bind_some]
  congr 1
  have q3' : q.Pairwise (· ≤ ·) := by
   refine Srt.pairwise ?_
   rw [q2.length_eq]; exact q3
  refine List.Perm.eq_of_pairwise (le := (· ≤ ·)) (fun a b _ _ h1 h2 => Int.le_antisymm h1 h2) q3' (csW_asc _) ?_
  refine q2.trans ?_
  conv => lhs; rw [hb]
  exact (bytesI_perm (csW_perm hL)).symm
 ·cases h⟩
section
variable (D : UInt8 → UInt8 → Bool) (log : Wd)

def mxs (f : Nat → Nat) (P : Nat → Bool) (k : Nat) : Nat := (List.range k).foldl (fun a j => if P j = true then max a (f j + 1) else a) 0
theorem mxs_succ (f : Nat → Nat) (P : Nat → Bool) (k : Nat) : mxs f P (k + 1) = if P k = true then max (mxs f P k) (f k + 1) else mxs f P k := by
 unfold mxs
 rw [List.range_succ, List.foldl_append]; rfl
theorem mxs_congr {f g : Nat → Nat} {P : Nat → Bool} : ∀ {k : Nat}, (∀ j, j < k → f j = g j) → mxs f P k = mxs g P k
 | 0, _ => rfl
 | k + 1, h => by rw [mxs_succ, mxs_succ, mxs_congr fun j hj => h j (by omega), h k (by omega)]
theorem mxs_ge {f : Nat → Nat} {P : Nat → Bool} : ∀ {k j : Nat}, j < k → P j = true → f j + 1 ≤ mxs f P k
 | k + 1, j, h, hP => by
  rw [mxs_succ]
  by_cases hj : j = k
  ·subst hj; rw [if_pos hP]; omega
  ·have := mxs_ge (f := f) (show j < k by omega) hP
   split <;> omega
theorem mxs_at {f : Nat → Nat} {P : Nat → Bool} : ∀ (k : Nat), mxs f P k = 0 ∨ ∃ j, j < k ∧ P j = true ∧ mxs f P k = f j + 1
 | 0 => .inl rfl
 | k + 1 => by
  rw [mxs_succ]
  by_cases hP : P k = true
  ·rw [if_pos hP]
   by_cases h : f k + 1 ≤ mxs f P k
   ·rw [Nat.max_eq_left h]
    rcases mxs_at (f := f) (P := P) k with e | ⟨j, a, b, c⟩
    ·omega
    ·exact .inr ⟨j, by omega, b, c⟩
   ·exact .inr ⟨k, by omega, hP, by omega⟩
  ·rw [if_neg hP]
   rcases mxs_at (f := f) (P := P) k with e | ⟨j, a, b, c⟩
   ·exact .inl e
   ·exact .inr ⟨j, by omega, b, c⟩
def bdd (i k : Nat) : Bool := D (log.getD k 0) (log.getD i 0)
def sts : Nat → List Nat
 | 0 => []
 | m + 1 => sts m ++ [mxs (fun k => (sts m).getD k 0) (bdd D log m) m]
def st (i : Nat) : Nat := mxs (fun k => (sts D log i).getD k 0) (bdd D log i) i
end

section
variable {D : UInt8 → UInt8 → Bool} {log : Wd}

theorem sts_len : ∀ m, (sts D log m).length = m
 | 0 => rfl
 | m + 1 => by rw [sts, List.length_append, sts_len m]; rfl
theorem sts_get : ∀ {m k : Nat}, k < m → (sts D log m).getD k 0 = st D log k
 | m + 1, k, h => by
  rw [sts, List.getD_eq_getElem?_getD]
  by_cases hk : k = m
  ·subst hk
   rw [List.getElem?_append_right (by rw [sts_len]; omega), sts_len, Nat.sub_self]; rfl
  ·rw [List.getElem?_append_left (by rw [sts_len]; omega), ← List.getD_eq_getElem?_getD]
   exact sts_get (by omega)
theorem st_eq (i : Nat) : st D log i = mxs (st D log) (bdd D log i) i := mxs_congr fun j hj => sts_get hj
theorem st_ge {i k : Nat} (h : k < i) (hD : bdd D log i k = true) : st D log k + 1 ≤ st D log i := by rw [st_eq i]; exact mxs_ge h hD
theorem st_at (i : Nat) : st D log i = 0 ∨ ∃ k, k < i ∧ bdd D log i k = true ∧ st D log i = st D log k + 1 := by rw [st_eq i]; exact mxs_at i
def mx (D : UInt8 → UInt8 → Bool) (log : Wd) : Nat → Nat
 | 0 => 0
 | m + 1 => max (mx D log m) (st D log m + 1)
theorem mx_gt : ∀ {m i : Nat}, i < m → st D log i + 1 ≤ mx D log m
 | m + 1, i, h => by
  rw [mx]
  by_cases hi : i = m
  ·subst hi; omega
  ·have := mx_gt (show i < m by omega); omega
theorem st_le_mx (i : Nat) : st D log i ≤ mx D log i := by
 rcases st_at (D := D) (log := log) i with e | ⟨k, a, _, c⟩
 ·omega
 ·have := mx_gt (D := D) (log := log) a; omega
theorem mx_le : ∀ m, mx D log m ≤ m
 | 0 => Nat.le_refl 0
 | m + 1 => by
  have h1 := mx_le m
  have h2 := st_le_mx (D := D) (log := log) m
  rw [mx]; omega
theorem mx_at : ∀ {m : Nat}, 0 < mx D log m → ∃ i, i < m ∧ st D log i + 1 = mx D log m
 | 0, h => by simp [mx] at h
 | m + 1, h => by
  rw [mx] at h ⊢
  by_cases hm : mx D log m ≤ st D log m + 1
  ·exact ⟨m, by omega, by omega⟩
  ·obtain ⟨i, a, b⟩ := mx_at (m := m) (by omega)
   exact ⟨i, by omega, by omega⟩
end

def ws (D : UInt8 → UInt8 → Bool) (log : Wd) (s : Nat) : Wd := ((List.range log.length).filter fun i => decide (st D log i = s)).map fun i => log.getD i 0
def stW (D : UInt8 → UInt8 → Bool) (log : Wd) : List Wd := (List.range (mx D log log.length)).map fun s => csW (ws D log s)
def B15 : Of → Wd → Option (List Wd × Int) := fun o l => some (if errA o [l] = 0 then (stW (Do o) l, 0) else ([], errA o [l]))
theorem sum_le' {α : Type} (l : List α) (f : α → Nat) (b : Nat) (h : ∀ x ∈ l, f x ≤ b) : (l.map f).sum ≤ l.length * b := by
 induction l with
 | nil => simp
 | cons x l ih =>
  have h1 := h x (by simp)
  have h2 := ih fun y hy => h y (by simp [hy])
  simp only [List.map_cons, List.sum_cons, List.length_cons, Nat.add_mul, Nat.one_mul]; omega
def lft (D : UInt8 → UInt8 → Bool) (log : Wd) (s : Nat) : List Nat := (List.range log.length).filter fun i => decide (s ≤ st D log i)
theorem mem_lft {D : UInt8 → UInt8 → Bool} {log : Wd} {s i : Nat} : i ∈ lft D log s ↔ i < log.length ∧ s ≤ st D log i := by
 unfold lft; rw [List.mem_filter, List.mem_range, decide_eq_true_iff]
theorem fr_congr {D E : UInt8 → UInt8 → Bool} {log : Wd} {S : List Nat} {i : Nat} (h : ∀ x ∈ log, ∀ y ∈ log, D x y = E x y) (hS : ∀ k ∈ S, k < log.length) (hi : i < log.length) : fr D log S i = fr E log S i := by
 unfold fr
 rw [Bool.eq_iff_iff, List.all_eq_true, List.all_eq_true]
 constructor
 ·intro hall k hk
  have := hall k hk
  rwa [h _ (getD_mem (hS k hk)) _ (getD_mem hi)] at this
 ·intro hall k hk
  have := hall k hk
  rwa [h _ (getD_mem (hS k hk)) _ (getD_mem hi)]
theorem open_iff {D : UInt8 → UInt8 → Bool} {log : Wd} {s i : Nat} (hi : i < log.length) : (decide (i ∈ lft D log s) && fr D log (lft D log s) i) = decide (st D log i = s) := by
 rw [Bool.eq_iff_iff, Bool.and_eq_true, decide_eq_true_iff, decide_eq_true_iff, mem_lft]
 unfold fr
 rw [List.all_eq_true]
 constructor
 ·rintro ⟨⟨_, h1⟩, h2⟩
  rcases st_at (D := D) (log := log) i with e | ⟨k, a, b, c⟩
  ·omega
  ·by_cases hks : s ≤ st D log k
   ·have := h2 k (mem_lft.2 ⟨by omega, hks⟩)
    rw [decide_eq_true a, Bool.true_and, show D (log.getD k 0) (log.getD i 0) = true from b] at this
    cases this
   ·omega
 ·intro h
  refine ⟨⟨hi, by omega⟩, fun k hk => ?_⟩
  have hk' := mem_lft.1 hk
  cases hD : D (log.getD k 0) (log.getD i 0) with
  | false => rw [Bool.and_false]; rfl
  | true =>
   by_cases hki : k < i
   ·have := st_ge (D := D) (log := log) hki hD; omega
   ·rw [decide_eq_false hki]; rfl
theorem ws_len {D : UInt8 → UInt8 → Bool} {log : Wd} (hR : ∀ x ∈ log, D x x = true) (hL : ∀ b ∈ log, isL b) (s : Nat) : (ws D log s).length ≤ 6 := by
 have hnd : (ws D log s).Nodup := by
  unfold ws
  rw [List.Nodup, List.pairwise_map]
  refine List.Pairwise.imp_of_mem (R := (· < ·)) (fun {i j} hi hj hij e => ?_) (List.Pairwise.filter _ List.pairwise_lt_range)
  have h1 := List.mem_filter.1 hi
  have h2 := List.mem_filter.1 hj
  rw [List.mem_range, decide_eq_true_iff] at h1 h2
  have := st_ge (D := D) (log := log) hij (by unfold bdd; rw [e]; exact hR _ (getD_mem h2.1))
  omega
 have hin : ∀ b ∈ ws D log s, isL b := fun b hb => by
  obtain ⟨i, hi, rfl⟩ := List.mem_map.1 hb
  exact hL _ (getD_mem (List.mem_range.1 (List.mem_filter.1 hi).1))
 rw [← (csW_perm hin).length_eq]
 unfold csW
 rw [List.length_flatMap]
 refine Nat.le_trans (sum_le' _ _ 1 fun x _ => ?_) (by decide)
 rw [show ((ws D log s).filter (· == x)).length = (ws D log s).count x by rw [List.count_eq_length_filter]]
 exact List.nodup_iff_count.1 hnd x
theorem erase_all : ∀ (op S : List Nat), S.Nodup → op.foldl (fun S i => S.erase i) S = S.filter fun i => decide (i ∉ op)
 | [], S, _ => (List.filter_eq_self.2 fun i _ => by simp).symm
 | a :: op, S, h => by
  rw [List.foldl_cons, erase_all op _ (h.erase a), List.Nodup.erase_eq_filter h, List.filter_filter]
  congr 1
  funext i
  by_cases h1 : i = a <;> by_cases h2 : i ∈ op <;> simp [h1, h2]
theorem rounds15 {o : Of} (h0 : errO o = 0) {l : Wd} (hn : l.length ≤ 14) (hw : Ls o l) : ∀ (n s : Nat), mx (Do o) l l.length - s < n → s ≤ mx (Do o) l l.length →
  l15a C41 B42 B46 B47 30 l n ((List.range s).map fun s => csW (ws (Do o) l s)) (deskO o) l (Pl' (lft (Do o) l s)) = some (stW (Do o) l, 0)
 | 0, s, h, _ => by omega
 | n + 1, s, h, hs => by
  have hmx := mx_le (D := Do o) (log := l) l.length
  have hL := hw.isL h0
  rw [l15a]
  have hlen : (Pl' (lft (Do o) l s)).length = (lft (Do o) l s).length := List.length_map _
  rw [hlen]
  have hv : Vp (deskO o) l (Pl' (lft (Do o) l s)) := by
   refine ⟨deskO_ok o, hL, by omega, by rw [kz_Pl], ?_, ?_⟩
   ·rw [kz_Pl]; exact List.Pairwise.filter _ List.pairwise_lt_range
   ·rw [kz_Pl]; exact fun k hk => (mem_lft.1 hk).1
  have e46 : ∀ t : Nat, t < l.length → B46 (t : Int) (deskO o) l (Pl' (lft (Do o) l s)) = some (decide (st (Do o) l t = s), deskO o, l, Pl' (lft (Do o) l s)) := fun t ht => by
   unfold B46
   rw [if_pos ⟨hv, by omega, by omega⟩, kz_Pl, Int.toNat_natCast, fr_congr (Dk_Do h0 hw) (fun k hk => (mem_lft.1 hk).1) ht, open_iff ht]
  by_cases hfin : s = mx (Do o) l l.length
  ·have : lft (Do o) l s = [] := List.eq_nil_iff_forall_not_mem.2 fun i hi => by
    obtain ⟨a, b⟩ := mem_lft.1 hi
    have := mx_gt (D := Do o) (log := l) a
    omega
   rw [this, decide_eq_false (by simp), cond_false, hfin]; rfl
  ·obtain ⟨i0, a0, b0⟩ := mx_at (D := Do o) (log := l) (m := l.length) (by omega)
   have hpos : 0 < (lft (Do o) l s).length := List.length_pos_of_mem (mem_lft.2 ⟨a0, show s ≤ st (Do o) l i0 by omega⟩)
   rw [decide_eq_true (by omega), cond_true]
   have hopen : ∀ t, t ≤ l.length → ((List.range t).filter fun i => decide (st (Do o) l i = s)).length ≤ 14 := fun t ht => Nat.le_trans (List.length_filter_le _ _) (by rw [List.length_range]; omega)
   refine rangeIx l 0 (fun m (q : List Int × List Int) t => l15b C41 B42 B46 B47 30 l ((List.range s).map fun s => csW (ws (Do o) l s)) (fun y0 y1 y2 y3 => l15a C41 B42 B46 B47 30 l n y0 y1 y2 y3) m t q.1 q.2 (deskO o) l (Pl' (lft (Do o) l s)))
    (fun t _ q => q.1 = bytesI (((List.range t).filter fun i => decide (st (Do o) l i = s)).map fun i => l.getD i 0) ∧ q.2 = ((List.range t).filter fun i => decide (st (Do o) l i = s)).map fun i : Nat => (i : Int)) (fun _ _ _ => some (stW (Do o) l, 0)) (fun m q t x rest q1 q2 hI ih => ?_) (fun m q hI => ?_) 30 ([], []) (by omega) ⟨rfl, rfl⟩
   ·obtain ⟨stp, op⟩ := q
    obtain ⟨i1, i2⟩ := hI
    simp only at i1 i2
    show l15b C41 B42 B46 B47 30 l ((List.range s).map fun s => csW (ws (Do o) l s)) (fun y0 y1 y2 y3 => l15a C41 B42 B46 B47 30 l n y0 y1 y2 y3) (m + 1) (t : Int) stp op (deskO o) l (Pl' (lft (Do o) l s)) = _
    rw [l15b, ixA q1, cond_true, e46 t q1, Option.bind_some, ixW q1 (by omega)]
    simp only
    have hls : stp.length ≤ 14 := by rw [i1]; unfold bytesI; rw [List.length_map, List.length_map]; exact hopen t (by omega)
    have hlo : op.length ≤ 14 := by rw [i2, List.length_map]; exact hopen t (by omega)
    by_cases ht : st (Do o) l t = s
    ·rw [decide_eq_true ht, cond_true, chk_dec (by omega), chk_of (small_of (by omega) (by decide)), chk_of (small_of (by omega) (by decide)), Int.toNat_natCast, q2]
     refine ih (_, _) ⟨?_, ?_⟩
     ·show stp ++ [(x.toNat : Int)] = _
      rw [i1, List.range_succ, List.filter_append]
      unfold bytesI
      simp [ht, ← q2]
     ·show op ++ [(t : Int)] = _
      rw [i2, List.range_succ, List.filter_append]
      simp [ht]
    ·rw [decide_eq_false ht, cond_false]
     refine ih (stp, op) ⟨?_, ?_⟩
     ·show stp = _
      rw [i1, List.range_succ, List.filter_append]; simp [ht]
     ·show op = _
      rw [i2, List.range_succ, List.filter_append]; simp [ht]
   ·obtain ⟨stp, op⟩ := q
    obtain ⟨i1, i2⟩ := hI
    simp only at i1 i2
    show l15b C41 B42 B46 B47 30 l ((List.range s).map fun s => csW (ws (Do o) l s)) (fun y0 y1 y2 y3 => l15a C41 B42 B46 B47 30 l n y0 y1 y2 y3) (m + 1) (l.length : Int) stp op (deskO o) l (Pl' (lft (Do o) l s)) = _
    have i1 : stp = bytesI (ws (Do o) l s) := i1
    rw [l15b, ixE, cond_false]
    have hop14 : op.length ≤ 14 := by rw [i2, List.length_map]; exact hopen _ (Nat.le_refl _)
    refine rangeIx op 0 (fun m (q : Lf) t => l15c C41 B42 B46 B47 30 l ((List.range s).map fun s => csW (ws (Do o) l s)) stp op (deskO o) l (fun y0 y1 y2 y3 => l15a C41 B42 B46 B47 30 l n y0 y1 y2 y3) m t q)
     (fun t r q => ∃ S : List Nat, q = Pl' S ∧ (r.map Int.toNat).foldl (fun S i => S.erase i) S = lft (Do o) l (s + 1) ∧ ∀ z ∈ r, 0 ≤ z) (fun _ _ _ => some (stW (Do o) l, 0)) (fun m q t z rest q1 q2 hI ih => ?_) (fun m q hI => ?_) 30 (Pl' (lft (Do o) l s)) (by omega) ⟨_, rfl, ?_, ?_⟩
    ·obtain ⟨S, rfl, j2, j3⟩ := hI
     show l15c C41 B42 B46 B47 30 l ((List.range s).map fun s => csW (ws (Do o) l s)) stp op (deskO o) l (fun y0 y1 y2 y3 => l15a C41 B42 B46 B47 30 l n y0 y1 y2 y3) (m + 1) (t : Int) (Pl' S) = _
     rw [l15c, ixA q1, cond_true, ixB q1, chk_true, Int.toNat_natCast, q2, ixW q1 (by omega)]
     obtain ⟨z, rfl⟩ : ∃ k : Nat, z = (k : Int) := ⟨z.toNat, by have := j3 z (by simp); omega⟩
     have em : mdel (kt := .int .i64) (vt := .bool) (Pl' S) ((z : Nat) : Int) = Pl' (S.erase z) := mdel_Pl z _
     rw [em]
     exact ih _ ⟨S.erase z, rfl, by simpa using j2, fun y hy => j3 y (by simp [hy])⟩
    ·obtain ⟨S, rfl, j2, _⟩ := hI
     have j2 : S = lft (Do o) l (s + 1) := j2
     subst j2
     show l15c C41 B42 B46 B47 30 l ((List.range s).map fun s => csW (ws (Do o) l s)) stp op (deskO o) l (fun y0 y1 y2 y3 => l15a C41 B42 B46 B47 30 l n y0 y1 y2 y3) (m + 1) (op.length : Int) (Pl' (lft (Do o) l (s + 1))) = _
     have hws : ∀ b ∈ ws (Do o) l s, isL b := fun b hb => by
      obtain ⟨i, hi, rfl⟩ := List.mem_map.1 hb
      exact hL _ (getD_mem (List.mem_range.1 (List.mem_filter.1 hi).1))
     have hw6 := ws_len (D := Do o) (log := l) (fun x _ => (Do_bnd h0).refl x) hL s
     have e47 : B47 stp = some (bytesI (csW (ws (Do o) l s))) := by
      unfold B47
      rw [i1, toBytes_I, if_pos ⟨by unfold bytesI; rw [List.length_map]; omega, rfl, hws⟩]
     rw [l15c, ixE, cond_false, e47, Option.bind_some, toBytes_I, chk_of (small_of (by rw [List.length_map, List.length_range]; omega) (by decide))]
     have := rounds15 h0 hn hw n (s + 1) (by omega) (by omega)
     rw [List.range_succ, List.map_append] at this
     exact this
    ·have hmap : op.map Int.toNat = (List.range l.length).filter fun i => decide (st (Do o) l i = s) := by
      rw [i2, List.map_map]
      exact (List.map_congr_left fun i _ => by simp).trans (List.map_id _)
     rw [hmap, erase_all _ (lft (Do o) l s) ((List.Pairwise.filter _ List.pairwise_lt_range).imp fun h => Nat.ne_of_lt h)]
     unfold lft
     rw [List.filter_filter]
     refine List.filter_congr fun i hi => ?_
     rw [List.mem_range] at hi
     rw [Bool.eq_iff_iff]
     simp only [Bool.and_eq_true, decide_eq_true_eq, List.mem_filter, List.mem_range, not_and]
     constructor
     ·rintro ⟨a, b⟩
      have := a hi; omega
     ·intro h; exact ⟨fun _ => by omega, by omega⟩
    ·intro z hz
     rw [i2] at hz
     obtain ⟨k, _, rfl⟩ := List.mem_map.1 hz
     omega
theorem kb15 : FnOk Tryd.prog 15 (F15 B15) := ok15 C41 B42 B46 B47 kc41 kb42 kb46 kb47 B15 fun o l r h => ⟨30, by
 obtain rfl := Option.some.inj h
 unfold m15
 by_cases he : errA o [l] = 0
 ·obtain ⟨h1, h2⟩ := errA_word he (l := l) (by simp)
  have h0 := (errA_zero he).1
  have hmx := mx_le (D := Do o) (log := l) l.length
  rw [C41_good (by simp) he, if_pos he, Option.bind_some]
  show cond false _ _ = _
  rw [cond_false, B42_word _ h1, Option.bind_some]
  have := rounds15 h0 h1 h2 30 0 (by omega) (by omega)
  have e : lft (Do o) l 0 = List.range l.length := by
   unfold lft
   exact List.filter_eq_self.2 fun i _ => by simp
  rw [e] at this
  exact this
 ·obtain ⟨d, hd⟩ := C41_bad (ls := [l]) (by simp) he
  rw [hd, if_neg he, Option.bind_some]
  have : (errA o [l] != 0) = true := by simpa using he
  simp only [this, cond_true]⟩
def B17 : List Wd → List Wd → Option Bool := fun a b => if a = b ∧ a.length ≤ 1000 then some true else none
theorem kb17 : FnOk Tryd.prog 17 (F17 B17) := ok17 B17 fun a b r h => ⟨1001, by
 unfold B17 at h
 split at h
 ·rename_i hq
  obtain ⟨rfl, hl⟩ := hq
  obtain rfl := Option.some.inj h
  unfold m17
  have e : ((a.length : Int) != (a.length : Int)) = false := by simp
  rw [e, cond_false]
  refine rangeIx a [] (fun n (_ : Unit) t => l17a 1001 a a n t) (fun _ _ _ => True) (fun _ _ _ => some true) (fun n _ t x rest h1 h2 _ ih => ?_) (fun n _ _ => ?_) 1001 () (by omega) trivial
  ·show l17a 1001 a a (n + 1) (t : Int) = _
   rw [l17a, ixA h1, cond_true, ixB h1, chk_true, chk_true, ixW h1 (by omega)]
   have e : (a.getD ((t : Int)).toNat [] == a.getD ((t : Int)).toNat []) = true := by simp
   rw [e, Bool.not_true, cond_false]
   exact ih () trivial
  ·show l17a 1001 a a (n + 1) (a.length : Int) = _
   rw [l17a, ixE, cond_false]
 ·cases h⟩
end Go.Proofs.YtmpbbkldopfkpaaDoor
