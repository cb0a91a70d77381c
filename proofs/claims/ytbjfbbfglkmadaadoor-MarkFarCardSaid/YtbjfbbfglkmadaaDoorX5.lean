/-
 Words that are far apart: there is no doubt, and whoever is nearest is guilty.
-/
import Derived.Test.YtbjfbbfglkmadaaDoorX4
namespace Go.Proofs.YtbjfbbfglkmadaaDoor
open Go.RowKit
set_option linter.unusedVariables false

abbrev agr (a b : List Int) (k : Nat) : Bool := decide (a.getD k 0 = b.getD k 0)
def ag (n : Nat) (a b : List Int) : Nat := (List.range' 0 n).countP (agr a b)
theorem ag_comm (n : Nat) (a b : List Int) : ag n a b = ag n b a := by
 unfold ag
 congr 1; funext k
 exact decide_eq_decide.2 eq_comm
theorem apF_ag (b : List Int) : ∀ (xs : List Int) (t : Nat) (n : Int), apF b t xs n + (((List.range' 0 xs.length).countP fun k => decide (xs.getD k 0 = b.getD (t + k) 0) : Nat) : Int) = n + xs.length
 | [], t, n => by simp [apF]
 | x :: xs, t, n => by
  have ih := apF_ag b xs (t + 1) (cond (x != b.getD t 0) (n + 1) n)
  have e : (List.range' 1 xs.length).countP (fun k => decide ((x :: xs).getD k 0 = b.getD (t + k) 0)) = (List.range' 0 xs.length).countP fun k => decide (xs.getD k 0 = b.getD (t + 1 + k) 0) := by
   rw [List.range'_eq_map_range, List.range'_eq_map_range, List.countP_map, List.countP_map]
   congr 1; funext k
   simp only [Function.comp, Nat.zero_add]
   exact decide_eq_decide.2 (by rw [Nat.add_comm 1 k, List.getD_cons_succ, show t + (k + 1) = t + 1 + k by omega])
  rw [apF, List.length_cons, List.range'_succ, List.countP_cons, e]
  have e0 : ((x :: xs).getD 0 0 = b.getD (t + 0) 0) ↔ x = b.getD t 0 := Iff.rfl
  rw [bneDec] at ih ⊢
  by_cases h : x = b.getD t 0
  ·rw [decide_eq_true h] at ih ⊢
   simp only [Bool.not_true, cond_false] at ih ⊢
   rw [if_pos (decide_eq_true (e0.2 h))]
   omega
  ·rw [decide_eq_false h] at ih ⊢
   simp only [Bool.not_false, cond_true] at ih ⊢
   rw [if_neg (by rw [dtq]; exact fun q => h (e0.1 q))]
   omega
theorem ap_ag {a b : List Int} {n : Nat} (h : a.length = n) : ap a b + (ag n a b : Int) = n := by
 have := apF_ag b a 0 0
 rw [h] at this
 simp only [Nat.zero_add, Int.zero_add] at this
 unfold ap ag
 exact this
theorem cover : ∀ (l : List (Nat → Bool)) (R : List Nat), (∀ k ∈ R, ∃ p ∈ l, p k = true) → R.length ≤ (l.map fun p => R.countP p).sum
 | [], R, h => by
  cases R with
  | nil => simp
  | cons k r => obtain ⟨p, hp, _⟩ := h k (by simp); cases hp
 | p :: l, R, h => by
  have ih := cover l (R.filter fun k => !p k) fun k hk => by
   obtain ⟨h1, h2⟩ := List.mem_filter.1 hk
   obtain ⟨q, hq, hqk⟩ := h k h1
   rcases List.mem_cons.1 hq with rfl | hq
   ·rw [hqk] at h2; cases h2
   ·exact ⟨q, hq, hqk⟩
  have h1 : R.length = R.countP p + (R.filter fun k => !p k).length := by
   rw [← List.countP_eq_length_filter]
   have := List.length_eq_countP_add_countP (l := R) p
   rw [this]
   congr 2
   funext k
   cases p k <;> rfl
  have h2 : ((l.map fun q => (R.filter fun k => !p k).countP q).sum) ≤ (l.map fun q => R.countP q).sum := by
   clear ih h h1
   induction l with
   | nil => simp
   | cons q l ih =>
    simp only [List.map_cons, List.sum_cons]
    have := (List.filter_sublist (p := fun k => !p k) (l := R)).countP_le (p := q)
    omega
  rw [List.map_cons, List.sum_cons]
  omega
theorem sum_lt {m r : Nat} (f : (Nat → Bool) → Nat) : ∀ (l : List (Nat → Bool)), (∀ p ∈ l, m * f p + 1 ≤ r) → m * (l.map f).sum + l.length ≤ l.length * r
 | [], _ => by simp
 | p :: l, h => by
  have h1 := h p (by simp)
  have h2 := sum_lt f l fun q hq => h q (by simp [hq])
  rw [List.map_cons, List.sum_cons, List.length_cons, Nat.mul_add, Nat.add_mul, Nat.one_mul]
  omega
theorem pig {R : List Nat} {l : List (Nat → Bool)} {m : Nat} (h : ∀ k ∈ R, ∃ p ∈ l, p k = true) (hl : l.length ≤ m) (h0 : 0 < R.length) : ∃ p ∈ l, R.length ≤ m * R.countP p := by
 refine Classical.byContradiction fun hno => ?_
 have h1 := sum_lt (m := m) (r := R.length) (fun p => R.countP p) l fun p hp => by
  have := Classical.byContradiction fun q => hno ⟨p, hp, Nat.le_of_not_lt q⟩
  omega
 have h2 := cover l R h
 have h3 : m * R.length ≤ m * (l.map fun p => R.countP p).sum := Nat.mul_le_mul_left m h2
 have h4 : l.length * R.length ≤ m * R.length := Nat.mul_le_mul_right _ hl
 have h5 : l.length = 0 := by omega
 obtain rfl := List.eq_nil_of_length_eq_zero h5
 simp only [List.map_nil, List.sum_nil] at h2
 omega
abbrev wd (c : Cd) (i : Nat) : List Int := c.2.1.getD i []
def Far (c : Cd) : Prop := ∀ p q, p < c.2.1.length → q < c.2.1.length → p ≠ q → 4 * ag (sz c) (wd c p) (wd c q) < sz c
theorem far_of {c : Cd} (hc : cdE c = 0) (h : ∀ i k, i < c.2.1.length → k < i → 3 * (sz c : Int) < 4 * ap (wd c i) (wd c k)) : Far c := by
 obtain ⟨hm, hn, hz, hlen, hb⟩ := cdE_ok hc
 have one : ∀ p q, p < c.2.1.length → q < p → 4 * ag (sz c) (wd c p) (wd c q) < sz c := fun p q hp hq => by
  have h1 := h p q hp hq
  have h2 := ap_ag (b := wd c q) (hlen _ (getD_mem (d := []) hp))
  show 4 * ag (sz c) (c.2.1.getD p []) (wd c q) < sz c
  have h3 : 3 * (sz c : Int) < 4 * ap (c.2.1.getD p []) (wd c q) := h1
  omega
 intro p q hp hq hpq
 rcases Nat.lt_or_gt_of_ne hpq with h1 | h1
 ·rw [ag_comm]; exact one q p hq h1
 ·exact one p q hp h1
theorem mk_get {c : Cd} {l w : List Int} (h : mk c l w = true) {k : Nat} (hk : k < w.length) : ∃ i ∈ l, (wd c i.toNat).getD k 0 = w.getD k 0 := by
 rw [mk, List.all_eq_true] at h
 obtain ⟨i, hi, he⟩ := List.any_eq_true.1 (h k (List.mem_range.2 hk))
 exact ⟨i, hi, of_decide_eq_true he⟩
theorem cm_false {ls : List (List Int)} (h0 : 0 < ls.length) (h : cm ls = false) {i : Int} (hi : ∀ l ∈ ls, i ∈ l) : False := by
 have : cm ls = true := List.any_eq_true.2 ⟨i, hi _ (getD_mem h0), List.all_eq_true.2 fun l hl => decide_eq_true (hi l hl)⟩
 rw [h] at this; cases this
theorem far_none {c : Cd} (hc : cdE c = 0) (F : Far c) : ((cands c.2.1.length).any fun ls => (dbF c ls).2) = false := by
 obtain ⟨hm, hn, hz, hlen, hb⟩ := cdE_ok hc
 rw [List.any_eq_false]
 intro ls hls hd
 obtain ⟨h1, h2⟩ := cands_co hls
 obtain ⟨w, _, w1, w2, w3, w4⟩ := doubt_word hc h1 h2 hd
 have hR : 0 < (List.range' 0 (sz c)).length := by simp; omega
 have key : ∀ l : List (Nat × Nat), l.length ≤ 4 → (∀ p ∈ l, p.1 < c.2.1.length ∧ p.2 < c.2.1.length ∧ p.1 ≠ p.2) → (∀ k, k < sz c → ∃ p ∈ l, (wd c p.1).getD k 0 = (wd c p.2).getD k 0) → False := fun l hl hp hk => by
  obtain ⟨q, hq, hle⟩ := pig (R := List.range' 0 (sz c)) (l := l.map fun p => agr (wd c p.1) (wd c p.2)) (m := 4) (fun k hk' => by
   obtain ⟨p, hp, he⟩ := hk k (by rw [List.mem_range'_1] at hk'; omega)
   exact ⟨_, List.mem_map.2 ⟨p, hp, rfl⟩, decide_eq_true he⟩) (by simpa using hl) hR
  obtain ⟨p, hpl, rfl⟩ := List.mem_map.1 hq
  obtain ⟨p1, p2, p3⟩ := hp p hpl
  have := F _ _ p1 p2 p3
  rw [List.length_range'] at hle
  unfold ag at this
  omega
 rw [cands, List.mem_append] at hls
 rcases hls with h | h
 ·simp only [prs, List.mem_flatMap, List.mem_map] at h
  obtain ⟨a, ha, b, hb', rfl⟩ := h
  have ha := co_mem.1 ha
  have hb' := co_mem.1 hb'
  refine key (a.flatMap fun i => b.map fun j => (i.toNat, j.toNat)) ?_ (fun p hp => ?_) fun k hk => ?_
  ·have a2 := ha.2.1
   have b2 := hb'.2.1
   rw [List.length_flatMap]
   simp only [List.length_map]
   match a, a2 with
   | [], _ => simp
   | [_], _ => simp; omega
   | [_, _], _ => simp; omega
   | _ :: _ :: _ :: _, a2 => simp only [List.length_cons] at a2; omega
  ·simp only [List.mem_flatMap, List.mem_map] at hp
   obtain ⟨i, hi, j, hj, rfl⟩ := hp
   have hir := ha.2.2.2 i hi
   have hjr := hb'.2.2.2 j hj
   refine ⟨by simp only; omega, by simp only; omega, fun q => ?_⟩
   have hij : i = j := by simp only at q; omega
   exact cm_false (by simp) w4 (i := i) fun l hl => by
    simp only [List.mem_cons, List.not_mem_nil, or_false] at hl
    rcases hl with rfl | rfl
    ·exact hi
    ·rw [hij]; exact hj
  ·obtain ⟨i, hi, e1⟩ := mk_get (w3 a (by simp)) (show k < w.length by omega)
   obtain ⟨j, hj, e2⟩ := mk_get (w3 b (by simp)) (show k < w.length by omega)
   exact ⟨(i.toNat, j.toNat), List.mem_flatMap.2 ⟨i, hi, List.mem_map.2 ⟨j, hj, rfl⟩⟩, e1.trans e2.symm⟩
 ·simp only [trs, List.mem_map, List.mem_filter, dtq] at h
  obtain ⟨e, ⟨he, h3⟩, rfl⟩ := h
  have hw := co_mem.1 he
  match e, hw, h3 with
  | [x, y, z], hw, _ =>
   have hr := hw.2.2.1
   simp only [List.pairwise_cons, List.mem_cons, List.not_mem_nil, or_false, forall_eq_or_imp, forall_eq] at hr
   have m0 := hw.2.2.2 x (by simp)
   have m1 := hw.2.2.2 y (by simp)
   have m2 := hw.2.2.2 z (by simp)
   refine key [(x.toNat, y.toNat), (x.toNat, z.toNat), (y.toNat, z.toNat)] (by simp) (fun p hp => ?_) fun k hk => ?_
   ·simp only [List.mem_cons, List.not_mem_nil, or_false] at hp
    rcases hp with rfl | rfl | rfl <;> simp only <;> omega
   ·obtain ⟨i, hi, e1⟩ := mk_get (w3 [x, y] (by simp [tri])) (show k < w.length by omega)
    obtain ⟨j, hj, e2⟩ := mk_get (w3 [x, z] (by simp [tri])) (show k < w.length by omega)
    obtain ⟨u, hu, e3⟩ := mk_get (w3 [y, z] (by simp [tri])) (show k < w.length by omega)
    simp only [List.mem_cons, List.not_mem_nil, or_false] at hi hj hu
    have A : (wd c x.toNat).getD k 0 = w.getD k 0 → (wd c y.toNat).getD k 0 = w.getD k 0 → ∃ p ∈ [(x.toNat, y.toNat), (x.toNat, z.toNat), (y.toNat, z.toNat)], (wd c p.1).getD k 0 = (wd c p.2).getD k 0 := fun h1 h2 => ⟨_, List.mem_cons_self, h1.trans h2.symm⟩
    have B : (wd c x.toNat).getD k 0 = w.getD k 0 → (wd c z.toNat).getD k 0 = w.getD k 0 → ∃ p ∈ [(x.toNat, y.toNat), (x.toNat, z.toNat), (y.toNat, z.toNat)], (wd c p.1).getD k 0 = (wd c p.2).getD k 0 := fun h1 h2 => ⟨(x.toNat, z.toNat), by simp, h1.trans h2.symm⟩
    have C : (wd c y.toNat).getD k 0 = w.getD k 0 → (wd c z.toNat).getD k 0 = w.getD k 0 → ∃ p ∈ [(x.toNat, y.toNat), (x.toNat, z.toNat), (y.toNat, z.toNat)], (wd c p.1).getD k 0 = (wd c p.2).getD k 0 := fun h1 h2 => ⟨(y.toNat, z.toNat), by simp, h1.trans h2.symm⟩
    rcases hi with rfl | rfl
    ·rcases hu with rfl | rfl
     ·exact A e1 e3
     ·exact B e1 e3
    ·rcases hj with rfl | rfl
     ·exact A e2 e1
     ·exact C e1 e2
  | _ :: _ :: _ :: _ :: _, hw, _ => have := hw.2.1; simp only [List.length_cons] at this; omega
theorem near_guilty {c : Cd} {w : List Int} (hc : cdE c = 0) (F : Far c) (hw : w.length = sz c) {a b x : Nat} (ha : a < c.2.1.length) (hb : b < c.2.1.length) (hx : x < c.2.1.length)
  (hmix : ∀ k, k < sz c → w.getD k 0 = (wd c a).getD k 0 ∨ w.getD k 0 = (wd c b).getD k 0) (hnear : ∀ i, i < c.2.1.length → ap (wd c x) w ≤ ap (wd c i) w) :
  (x : Int) ∈ gl c w 2 ∧ (x = a ∨ x = b) := by
 obtain ⟨hm, hn, hz, hlen, _⟩ := cdE_ok hc
 have hR : 0 < (List.range' 0 (sz c)).length := by simp; omega
 have hag : ∀ i, i < c.2.1.length → ag (sz c) (wd c i) w ≤ ag (sz c) (wd c x) w := fun i hi => by
  have h1 := ap_ag (b := w) (hlen _ (getD_mem (d := []) hi))
  have h2 := ap_ag (b := w) (hlen _ (getD_mem (d := []) hx))
  have h3 := hnear i hi
  unfold wd at h3 ⊢
  omega
 have hx2 : sz c ≤ 2 * ag (sz c) (wd c x) w := by
  obtain ⟨q, hq, hle⟩ := pig (R := List.range' 0 (sz c)) (l := [agr (wd c a) w, agr (wd c b) w]) (m := 2) (fun k hk => by
   rcases hmix k (by rw [List.mem_range'_1] at hk; omega) with e | e
   ·exact ⟨agr (wd c a) w, by simp, decide_eq_true e.symm⟩
   ·exact ⟨agr (wd c b) w, by simp, decide_eq_true e.symm⟩) (by simp) hR
  rw [List.length_range'] at hle
  have ga := hag a ha
  have gb := hag b hb
  simp only [List.mem_cons, List.not_mem_nil, or_false] at hq
  unfold ag at ga gb ⊢
  rcases hq with rfl | rfl <;> omega
 have all : ∀ y, isCo c.2.1.length 2 y → mk c y w = true → (x : Int) ∈ y := fun y hy hmy => Classical.byContradiction fun hxy => by
  have hR' : ((List.range' 0 (sz c)).filter (agr (wd c x) w)).length = ag (sz c) (wd c x) w := by rw [ag, List.countP_eq_length_filter]
  obtain ⟨q, hq, hle⟩ := pig (R := (List.range' 0 (sz c)).filter (agr (wd c x) w)) (l := y.map fun p => agr (wd c p.toNat) (wd c x)) (m := 2) (fun k hk => by
   obtain ⟨k1, k2⟩ := List.mem_filter.1 hk
   rw [List.mem_range'_1] at k1
   obtain ⟨p, hp, e⟩ := mk_get hmy (show k < w.length by omega)
   exact ⟨_, List.mem_map.2 ⟨p, hp, rfl⟩, decide_eq_true (e.trans (of_decide_eq_true k2).symm)⟩) (by rw [List.length_map]; exact hy.2.1) (by omega)
  obtain ⟨p, hp, rfl⟩ := List.mem_map.1 hq
  have hpr := hy.2.2.2 p hp
  have h1 := F p.toNat x (by omega) hx fun e => hxy (by rw [show (x : Int) = p by omega]; exact hp)
  have h2 := (List.filter_sublist (p := agr (wd c x) w) (l := List.range' 0 (sz c))).countP_le (p := agr (wd c p.toNat) (wd c x))
  unfold ag at h1 hx2 hR'
  omega
 have hw0 : 0 < w.length := by omega
 refine ⟨(gl_mem hw0).2 ⟨by omega, fun y h1 h2 => all y h1 h2⟩, ?_⟩
 have two : ∀ u v : Nat, u < v → v < c.2.1.length → isCo c.2.1.length 2 [(u : Int), (v : Int)] := fun u v h1 h2 => by
  refine ⟨by simp, Nat.le_refl _, ?_, ?_⟩
  ·simp only [List.pairwise_cons, List.mem_cons, List.not_mem_nil, or_false, forall_eq, List.Pairwise.nil, false_imp_iff, implies_true, and_true]
   omega
  ·simp only [List.mem_cons, List.not_mem_nil, or_false, forall_eq_or_imp, forall_eq]
   omega
 have mkof : ∀ l : List Int, (a : Int) ∈ l → (b : Int) ∈ l → mk c l w = true := fun l h1 h2 => by
  rw [mk, List.all_eq_true]
  intro k hk
  rcases hmix k (by have := List.mem_range.1 hk; omega) with e | e
  ·exact List.any_eq_true.2 ⟨_, h1, decide_eq_true (by rw [Int.toNat_natCast]; exact e.symm)⟩
  ·exact List.any_eq_true.2 ⟨_, h2, decide_eq_true (by rw [Int.toNat_natCast]; exact e.symm)⟩
 rcases Nat.lt_trichotomy a b with h | h | h
 ·have := all _ (two a b h hb) (mkof _ (by simp) (by simp))
  simp only [List.mem_cons, List.not_mem_nil, or_false] at this; omega
 ·have := all [(a : Int)] ⟨by simp, by simp, List.pairwise_singleton _ _, fun e he => by rw [List.mem_singleton.1 he]; omega⟩ (mkof _ (by simp) (by simp [h]))
  rw [List.mem_singleton] at this; omega
 ·have := all _ (two b a h ha) (mkof _ (by simp) (by simp))
  simp only [List.mem_cons, List.not_mem_nil, or_false] at this; omega
theorem minF_lb : ∀ {l : List Int} {a x : Int}, x ∈ l → minF a l ≤ x
 | y :: r, a, x, h => by
  show minF (imin a y) r ≤ x
  rcases List.mem_cons.1 h with rfl | h
  ·have := minF_le r (imin a x)
   have h2 : imin a x ≤ x := by unfold imin; split <;> omega
   omega
  ·exact minF_lb h
theorem minF_in : ∀ (l : List Int) (a : Int), minF a l = a ∨ minF a l ∈ l
 | [], a => .inl rfl
 | y :: r, a => by
  have h2 : imin a y = a ∨ imin a y = y := by unfold imin; split <;> simp
  show minF (imin a y) r = a ∨ minF (imin a y) r ∈ y :: r
  rcases minF_in r (imin a y) with h | h
  ·rw [h]
   rcases h2 with h2 | h2
   ·exact .inl h2
   ·rw [h2]; exact .inr (by simp)
  ·exact .inr (List.mem_cons_of_mem _ h)
theorem nrF_mem {w : List Int} {m x : Int} : ∀ {l : List (List Int)} {t : Nat}, x ∈ nrF w m t l ↔ ∃ j, j < l.length ∧ x = ((t + j : Nat) : Int) ∧ ap (l.getD j []) w = m
 | [], t => by simp [nrF]
 | y :: r, t => by
  have ih := nrF_mem (w := w) (m := m) (x := x) (l := r) (t := t + 1)
  have key : (∃ j, j < (y :: r).length ∧ x = ((t + j : Nat) : Int) ∧ ap ((y :: r).getD j []) w = m) ↔ (x = (t : Int) ∧ ap y w = m) ∨ ∃ j, j < r.length ∧ x = ((t + 1 + j : Nat) : Int) ∧ ap (r.getD j []) w = m := by
   constructor
   ·rintro ⟨j, h1, h2, h3⟩
    cases j with
    | zero => exact .inl ⟨h2, h3⟩
    | succ j => exact .inr ⟨j, by simpa using h1, by omega, h3⟩
   ·rintro (⟨h1, h2⟩ | ⟨j, h1, h2, h3⟩)
    ·exact ⟨0, by simp, h1, h2⟩
    ·exact ⟨j + 1, by simpa using h1, by omega, h3⟩
  rw [key, nrF]
  by_cases e : ap y w = m
  ·rw [decide_eq_true e, cond_true, List.mem_cons, ih]
   exact or_congr_left ⟨fun h => ⟨h, e⟩, fun h => h.1⟩
  ·rw [decide_eq_false e, cond_false, ih]
   exact ⟨.inr, fun h => h.elim (fun h => absurd h.2 e) id⟩
theorem near_mem {c : Cd} {w : List Int} (hc : cdE c = 0) {x : Int} (h : x ∈ nrF w (nrM c w) 0 c.2.1) : ∃ j, j < c.2.1.length ∧ x = (j : Int) ∧ ∀ i, i < c.2.1.length → ap (wd c j) w ≤ ap (wd c i) w := by
 obtain ⟨j, h1, h2, h3⟩ := nrF_mem.1 h
 refine ⟨j, h1, by rw [h2, Nat.zero_add], fun i hi => ?_⟩
 rw [show ap (wd c j) w = nrM c w from h3]
 exact minF_lb (List.mem_map.2 ⟨_, getD_mem hi, rfl⟩)
theorem near_ne {c : Cd} {w : List Int} (hc : cdE c = 0) : 0 < (nrF w (nrM c w) 0 c.2.1).length := by
 obtain ⟨hm, hn, hz, hlen, _⟩ := cdE_ok hc
 have hex : ∃ j, j < c.2.1.length ∧ ap (c.2.1.getD j []) w = nrM c w := by
  rcases minF_in (c.2.1.map fun x => ap x w) 8 with h | h
  ·have h0 : ap (c.2.1.getD 0 []) w ≤ 8 := by
    have := (ap_le (c.2.1.getD 0 []) w).2
    rw [hlen _ (getD_mem hn.1)] at this; omega
   have h1 : nrM c w ≤ ap (c.2.1.getD 0 []) w := minF_lb (List.mem_map.2 ⟨_, getD_mem hn.1, rfl⟩)
   exact ⟨0, hn.1, by unfold nrM at h1 ⊢; omega⟩
  ·obtain ⟨y, hy, he⟩ := List.mem_map.1 h
   obtain ⟨j, hj, rfl⟩ := List.getElem_of_mem hy
   refine ⟨j, hj, ?_⟩
   rw [List.getD_eq_getElem?_getD, List.getElem?_eq_getElem hj]
   exact he
 obtain ⟨j, hj, he⟩ := hex
 exact List.length_pos_of_mem (nrF_mem.2 ⟨j, hj, rfl, he⟩)
end Go.Proofs.YtbjfbbfglkmadaaDoor
