/-
  What the laws without the reference need.
-/
import Derived.Test.YtaioadjcdjmkdaaJ7
namespace Go.Proofs.Ytaioadjcdjmkdaa
open Go.RowKit
set_option linter.unusedVariables false

/-! ### by size, then by stones -/
def lx : List Int → List Int → Prop
  | x :: u, y :: v => x < y ∨ (x = y ∧ lx u v)
  | _, _ => False
theorem lx_trans : ∀ {u v w : List Int}, lx u v → lx v w → lx u w
  | x :: u, y :: v, z :: w, h1, h2 => by
    simp only [lx] at h1 h2 ⊢
    rcases h1 with h1 | ⟨h1, h1'⟩ <;> rcases h2 with h2 | ⟨h2, h2'⟩
    · left; omega
    · left; omega
    · left; omega
    · right; exact ⟨by omega, lx_trans h1' h2'⟩
  | [], _, _, h1, _ => h1.elim
  | _ :: _, [], _, h1, _ => h1.elim
  | _ :: _, _ :: _, [], _, h2 => h2.elim
theorem lx_app {x y : Int} : ∀ {u v : List Int}, u.length = v.length → lx u v → lx (u ++ [x]) (v ++ [y])
  | a :: u, b :: v, h, h1 => by
    simp only [List.cons_append, lx] at h1 ⊢
    rcases h1 with h1 | ⟨h1, h1'⟩
    · exact .inl h1
    · exact .inr ⟨h1, lx_app (by simpa using h) h1'⟩
  | [], _, _, h1 => h1.elim
  | _ :: _, [], _, h1 => h1.elim
theorem lx_end {x y : Int} (h : x < y) : ∀ {u : List Int}, lx (u ++ [x]) (u ++ [y])
  | [] => .inl h
  | a :: u => .inr ⟨rfl, lx_end h⟩
theorem lx_irr : ∀ {u : List Int}, ¬ lx u u
  | [], h => h
  | a :: u, h => by
    rcases h with h | ⟨_, h⟩
    · omega
    · exact lx_irr h
def sl (u v : List Int) : Prop := u.length < v.length ∨ (u.length = v.length ∧ lx u v)
def sle (u v : List Int) : Prop := u = v ∨ sl u v
theorem sl_trans {u v w : List Int} (h1 : sl u v) (h2 : sl v w) : sl u w := by
  rcases h1 with h1 | ⟨h1, h1'⟩ <;> rcases h2 with h2 | ⟨h2, h2'⟩
  · left; omega
  · left; omega
  · left; omega
  · right; exact ⟨by omega, lx_trans h1' h2'⟩
theorem sl_app {u v : List Int} (x y : Int) (h : sl u v) : sl (u ++ [x]) (v ++ [y]) := by
  rcases h with h | ⟨h, h'⟩
  · left; simp; omega
  · right; exact ⟨by simp [h], lx_app h h'⟩
theorem sl_end {u : List Int} {x y : Int} (h : x < y) : sl (u ++ [x]) (u ++ [y]) := .inr ⟨by simp, lx_end h⟩
theorem sle_trans {u v w : List Int} (h1 : sle u v) (h2 : sle v w) : sle u w := by
  rcases h1 with rfl | h1
  · exact h2
  · rcases h2 with rfl | h2
    · exact .inr h1
    · exact .inr (sl_trans h1 h2)
theorem sle_app {u v : List Int} (x : Int) (h : sle u v) : sle (u ++ [x]) (v ++ [x]) := by
  rcases h with rfl | h
  · exact .inl rfl
  · exact .inr (sl_app x x h)
theorem sle_pre (u v : List Int) : sle u (u ++ v) := by
  cases v with
  | nil => left; simp
  | cons x v => right; left; simp
theorem sle_len {u v : List Int} (h : sle u v) : u.length ≤ v.length := by
  rcases h with rfl | h | ⟨h, _⟩ <;> omega
theorem sle_antisymm {u v : List Int} (h1 : sle u v) (h2 : sle v u) : u = v := by
  rcases h1 with h1 | h1
  · exact h1
  · rcases h2 with h2 | h2
    · exact h2.symm
    · have := sl_trans h1 h2
      rcases this with h | ⟨_, h⟩
      · omega
      · exact absurd h lx_irr

/-! ### what the search keeps -/
structure Bfs (p : Pal) (st : Sr) : Prop where
  ok : SrOk p.1.toNat st
  pos : 0 < st.2.length
  first : st.1.getD 0 [] = []
  seq : ∀ j, j < st.2.length → SeqOk p (st.1.getD j []) ∧ givI p (st.1.getD j []) = st.2.getD j 0
  sorted : ∀ i j, i < j → j < st.2.length → sl (st.1.getD i []) (st.1.getD j [])
/-- What is told of an index and an ink. -/
def Has (st : Sr) (S : Nat) (w : List Int) : Prop := ∃ j, j < st.2.length ∧ st.2.getD j 0 = S ∧ sle (st.1.getD j []) w
structure Ext (st st' : Sr) : Prop where
  le : st.2.length ≤ st'.2.length
  same : ∀ j, j < st.2.length → st'.2.getD j 0 = st.2.getD j 0 ∧ st'.1.getD j [] = st.1.getD j []
theorem Ext.refl (st : Sr) : Ext st st := ⟨Nat.le_refl _, fun j _ => ⟨rfl, rfl⟩⟩
theorem Ext.trans {a b c : Sr} (h1 : Ext a b) (h2 : Ext b c) : Ext a c := ⟨Nat.le_trans h1.le h2.le, fun j hj => ⟨(h2.same j (Nat.lt_of_lt_of_le hj h1.le)).1.trans (h1.same j hj).1, (h2.same j (Nat.lt_of_lt_of_le hj h1.le)).2.trans (h1.same j hj).2⟩⟩
theorem Has.ext {st st' : Sr} {S : Nat} {w : List Int} (h : Has st S w) (e : Ext st st') : Has st' S w := by
  obtain ⟨j, h1, h2, h3⟩ := h
  exact ⟨j, Nat.lt_of_lt_of_le h1 e.le, (e.same j h1).1.trans h2, by rw [(e.same j h1).2]; exact h3⟩
theorem giv_snoc (p : Pal) (l : List Int) (x : Int) : givI p (l ++ [x]) = addI (p.2.1.getD x.toNat []) (givI p l) := by simp [givI]
theorem seq_snoc {p : Pal} {l : List Int} {x : Int} (h : SeqOk p l) (hx : 0 ≤ x ∧ x < (p.2.1.length : Int)) : SeqOk p (l ++ [x]) := fun y hy => by
  rcases List.mem_append.1 hy with hy | hy
  · exact h y hy
  · simp at hy; subst hy; exact hx
theorem new_bfs {p : Pal} (hp : PalOk p) {a t : Nat} {st : Sr} (h : Bfs p st) (ha : a < st.2.length) (ht : t < p.2.1.length) (hb : ∀ j, j < st.2.length → sl (st.1.getD j []) (st.1.getD a [] ++ [(t : Int)])) :
    Bfs p (newS (st.2.getD a 0) (st.1.getD a []) st t (p.2.1.getD t [])) ∧ Ext st (newS (st.2.getD a 0) (st.1.getD a []) st t (p.2.1.getD t [])) ∧
    Has (newS (st.2.getD a 0) (st.1.getD a []) st t (p.2.1.getD t [])) (addI (p.2.1.getD t []) (st.2.getD a 0)) (st.1.getD a [] ++ [(t : Int)]) ∧
    (∀ j, j < (newS (st.2.getD a 0) (st.1.getD a []) st t (p.2.1.getD t [])).2.length → sl ((newS (st.2.getD a 0) (st.1.getD a []) st t (p.2.1.getD t [])).1.getD j []) (st.1.getD a [] ++ [((t + 1 : Nat) : Int)])) := by
  have hs := h.ok.same
  have hv := h.ok.rng _ (getD_mem (d := 0) ha)
  have hk : InkOk p.1.toNat (p.2.1.getD t []) := hp.ink _ (getD_mem ht)
  obtain ⟨n1, n2⟩ := newS_ok (t := t) h.ok ha hv.2 hv.1 (h.ok.len a (by omega)) hk
  have lt1 : sl (st.1.getD a [] ++ [(t : Int)]) (st.1.getD a [] ++ [((t + 1 : Nat) : Int)]) := sl_end (by omega)
  unfold newS at n1 n2 ⊢
  cases e : st.2.contains (addI (p.2.1.getD t []) (st.2.getD a 0)) with
  | true =>
    rw [e, cond_true] at n1
    simp only [cond_true]
    refine ⟨h, Ext.refl st, ?_, fun j hj => sl_trans (hb j hj) lt1⟩
    have hm := List.contains_iff_mem.1 e
    obtain ⟨j, hj, hje⟩ := List.getElem_of_mem hm
    refine ⟨j, hj, by rw [List.getD_eq_getElem?_getD, List.getElem?_eq_getElem hj]; exact hje, .inr (hb j hj)⟩
  | false =>
    rw [e, cond_false] at n1
    simp only [cond_false]
    have old : ∀ j, j < st.2.length → (st.2 ++ [addI (p.2.1.getD t []) (st.2.getD a 0)]).getD j 0 = st.2.getD j 0 ∧ (st.1 ++ [st.1.getD a [] ++ [(t : Int)]]).getD j [] = st.1.getD j [] := fun j hj => ⟨getD_app hj, getD_app (by omega)⟩
    have nw2 : (st.2 ++ [addI (p.2.1.getD t []) (st.2.getD a 0)]).getD st.2.length 0 = addI (p.2.1.getD t []) (st.2.getD a 0) := getD_end
    have nw1 : (st.1 ++ [st.1.getD a [] ++ [(t : Int)]]).getD st.2.length [] = st.1.getD a [] ++ [(t : Int)] := by rw [← hs]; exact getD_end
    have cases_ : ∀ j, j < (st.2 ++ [addI (p.2.1.getD t []) (st.2.getD a 0)]).length → j < st.2.length ∨ j = st.2.length := fun j hj => by simp at hj; omega
    refine ⟨⟨n1, by simp, (old 0 h.pos).2.trans h.first, fun j hj => ?_, fun i j hij hj => ?_⟩, ⟨by simp, old⟩, ⟨st.2.length, by simp, nw2, .inl nw1⟩, fun j hj => ?_⟩
    · rcases cases_ j hj with hj | rfl
      · rw [(old j hj).1, (old j hj).2]; exact h.seq j hj
      · rw [nw1, nw2]
        obtain ⟨s1, s2⟩ := h.seq a ha
        exact ⟨seq_snoc s1 (by omega), by rw [giv_snoc, s2, Int.toNat_natCast]⟩
    · rcases cases_ j hj with hj | rfl
      · rw [(old i (by omega)).2, (old j hj).2]; exact h.sorted i j hij hj
      · rw [(old i hij).2, nw1]; exact hb i hij
    · rcases cases_ j hj with hj | rfl
      · rw [(old j hj).2]; exact sl_trans (hb j hj) lt1
      · rw [nw1]; exact lt1
theorem exp_bfs {p : Pal} (hp : PalOk p) {a : Nat} {v : Nat} {w : List Int} : ∀ (ks : List (List Int)) (t : Nat) (st : Sr), p.2.1.drop t = ks → Bfs p st → a < st.2.length → st.2.getD a 0 = v → st.1.getD a [] = w →
    (∀ j, j < st.2.length → sl (st.1.getD j []) (w ++ [(t : Int)])) →
    Bfs p (expL v w ks t st) ∧ Ext st (expL v w ks t st) ∧ (∀ i, t ≤ i → i < p.2.1.length → Has (expL v w ks t st) (addI (p.2.1.getD i []) v) (w ++ [(i : Int)])) ∧
    (∀ j, j < (expL v w ks t st).2.length → sl ((expL v w ks t st).1.getD j []) (w ++ [((t + ks.length : Nat) : Int)]))
  | [], t, st, hd, h, ha, hv, hw, hb => by
    have : p.2.1.length ≤ t := by have := congrArg List.length hd; simp at this; omega
    exact ⟨h, Ext.refl st, fun i h1 h2 => by omega, hb⟩
  | k :: ks, t, st, hd, h, ha, hv, hw, hb => by
    obtain ⟨d1, d2, d3⟩ := getD_drop (d := ([] : List Int)) hd
    subst hv; subst hw; subst d2
    obtain ⟨n1, n2, n3, n4⟩ := new_bfs hp h ha d1 hb
    have sa := n2.same a ha
    obtain ⟨m1, m2, m3, m4⟩ := exp_bfs hp (a := a) ks (t + 1) _ d3 n1 (Nat.lt_of_lt_of_le ha n2.le) sa.1 sa.2 n4
    refine ⟨m1, n2.trans m2, fun i h1 h2 => ?_, by rw [List.length_cons, show t + (ks.length + 1) = t + 1 + ks.length by omega]; exact m4⟩
    by_cases e : i = t
    · subst e; exact n3.ext m2
    · exact m3 i (by omega) h2

/-! ### the first that serves -/
def Sv (p : Pal) (want : Nat) (l : List Int) : Prop := givI p l &&& want = want
theorem reach {p : Pal} {a : Nat} {st : Sr} (h : Bfs p st) (hc : ∀ j, j < a → j < st.2.length → ∀ i, i < p.2.1.length → Has st (addI (p.2.1.getD i []) (st.2.getD j 0)) (st.1.getD j [] ++ [(i : Int)])) :
    ∀ (r q : List Int), SeqOk p r → Has st (givI p q) q → Has st (givI p (q ++ r)) (q ++ r) ∨ (a < st.2.length ∧ sle (st.1.getD a []) (q ++ r))
  | [], q, _, hq => by rw [List.append_nil]; exact .inl hq
  | x :: r, q, hr, hq => by
    obtain ⟨j, j1, j2, j3⟩ := hq
    by_cases hj : j < a
    · have hx := hr x (by simp)
      obtain ⟨x, rfl⟩ : ∃ z : Nat, x = z := ⟨x.toNat, by omega⟩
      obtain ⟨i, i1, i2, i3⟩ := hc j hj j1 x (by omega)
      have := reach h hc r (q ++ [(x : Int)]) (fun y hy => hr y (by simp [hy])) ⟨i, i1, by rw [i2, giv_snoc, Int.toNat_natCast, j2], sle_trans i3 (sle_app _ j3)⟩
      simpa using this
    · right
      have ha : a < st.2.length := by omega
      refine ⟨ha, ?_⟩
      have : sle (st.1.getD a []) (st.1.getD j []) := by
        by_cases e : a = j
        · subst e; exact .inl rfl
        · exact .inr (h.sorted a j (by omega) j1)
      exact sle_trans this (sle_trans j3 (sle_pre _ _))
theorem srch_ok {p : Pal} (hp : PalOk p) {want : Nat} : ∀ (k a : Nat) (st : Sr), a + k = 129 → Bfs p st →
    (∀ j, j < a → j < st.2.length → ¬ (st.2.getD j 0 &&& want = want)) →
    (∀ j, j < a → j < st.2.length → ∀ i, i < p.2.1.length → Has st (addI (p.2.1.getD i []) (st.2.getD j 0)) (st.1.getD j [] ++ [(i : Int)])) →
    (a < st.2.length → ∀ j, j < st.2.length → sl (st.1.getD j []) (st.1.getD a [] ++ [(0 : Int)])) →
    match srch p want k a st with
    | some l => SeqOk p l ∧ Sv p want l ∧ ∀ l', SeqOk p l' → Sv p want l' → sle l l'
    | none => ∀ l', SeqOk p l' → ¬ Sv p want l' := by
  intro k
  induction k with
  | zero =>
    intro a st hak h h4 h3 hb
    have hlen := h.ok.many (nat7 hp).2.1
    show ∀ l', SeqOk p l' → ¬ Sv p want l'
    intro l' hl' hs
    rcases reach h h3 l' [] hl' ⟨0, h.pos, by rw [← (h.seq 0 h.pos).2, h.first], by rw [h.first]; exact .inl rfl⟩ with ⟨j, j1, j2, _⟩ | ⟨ha, _⟩
    · rw [List.nil_append] at j2
      exact h4 j (by omega) j1 (by rw [j2]; exact hs)
    · omega
  | succ k ih =>
    intro a st hak h h4 h3 hb
    simp only [srch]
    by_cases ha : a < st.2.length
    · rw [decide_eq_true ha, cond_true]
      by_cases hw : st.2.getD a 0 &&& want = want
      · rw [decide_eq_true hw, cond_true]
        obtain ⟨s1, s2⟩ := h.seq a ha
        refine ⟨s1, by rw [Sv, s2]; exact hw, fun l' hl' hs => ?_⟩
        rcases reach h h3 l' [] hl' ⟨0, h.pos, by rw [← (h.seq 0 h.pos).2, h.first], by rw [h.first]; exact .inl rfl⟩ with ⟨j, j1, j2, j3⟩ | ⟨_, h2⟩
        · rw [List.nil_append] at j2 j3
          have hja : ¬ j < a := fun hja => h4 j hja j1 (by rw [j2]; exact hs)
          have : sle (st.1.getD a []) (st.1.getD j []) := by
            by_cases e : a = j
            · subst e; exact .inl rfl
            · exact .inr (h.sorted a j (by omega) j1)
          exact sle_trans this j3
        · rw [List.nil_append] at h2; exact h2
      · rw [decide_eq_false hw, cond_false]
        obtain ⟨e1, e2, e3, e4⟩ := exp_bfs hp (a := a) (v := st.2.getD a 0) (w := st.1.getD a []) p.2.1 0 st (by simp) h ha rfl rfl (hb ha)
        refine ih (a + 1) _ (by omega) e1 (fun j hj hjl => ?_) (fun j hj hjl i hi => ?_) (fun ha1 j hj => ?_)
        · have hj' : j < st.2.length := by omega
          rw [(e2.same j hj').1]
          by_cases e : j = a
          · subst e; exact hw
          · exact h4 j (by omega) hj'
        · have hj' : j < st.2.length := by omega
          rw [(e2.same j hj').1, (e2.same j hj').2]
          by_cases e : j = a
          · subst e; exact e3 i (Nat.zero_le _) hi
          · exact (h3 j (by omega) hj' i hi).ext e2
        · refine sl_trans (e4 j hj) (sl_app _ _ ?_)
          have := e1.sorted a (a + 1) (by omega) ha1
          rw [(e2.same a ha).2] at this; exact this
    · rw [decide_eq_false ha, cond_false]
      show ∀ l', SeqOk p l' → ¬ Sv p want l'
      intro l' hl' hs
      rcases reach h h3 l' [] hl' ⟨0, h.pos, by rw [← (h.seq 0 h.pos).2, h.first], by rw [h.first]; exact .inl rfl⟩ with ⟨j, j1, j2, _⟩ | ⟨ha', _⟩
      · rw [List.nil_append] at j2
        exact h4 j (by omega) j1 (by rw [j2]; exact hs)
      · omega
theorem few_ok {p : Pal} (hp : PalOk p) (want : Nat) : match fewI p want with
    | some l => SeqOk p l ∧ Sv p want l ∧ ∀ l', SeqOk p l' → Sv p want l' → sle l l'
    | none => ∀ l', SeqOk p l' → ¬ Sv p want l' := by
  refine srch_ok hp 129 0 ([[]], [1]) rfl ⟨start_ok hp, by simp, rfl, fun j hj => ?_, fun i j hij hj => ?_⟩ (fun j hj => by omega) (fun j hj => by omega) (fun _ j hj => ?_)
  · simp at hj; subst hj
    exact ⟨fun x hx => by simp at hx, rfl⟩
  · simp at hj; omega
  · simp at hj; subst hj
    left; simp
theorem few_some {p : Pal} (hp : PalOk p) {want : Nat} {l : List Int} (h : fewI p want = some l) : SeqOk p l ∧ Sv p want l ∧ ∀ l', SeqOk p l' → Sv p want l' → sle l l' := by
  have := few_ok hp want
  rw [h] at this; exact this
theorem few_none {p : Pal} (hp : PalOk p) {want : Nat} (h : fewI p want = none) : ∀ l', SeqOk p l' → ¬ Sv p want l' := by
  have := few_ok hp want
  rw [h] at this; exact this
theorem few_of {p : Pal} (hp : PalOk p) {want : Nat} {l : List Int} (h1 : SeqOk p l) (h2 : Sv p want l) : ∃ m, fewI p want = some m ∧ sle m l := by
  cases e : fewI p want with
  | none => exact absurd h2 (few_none hp e l h1)
  | some m => exact ⟨m, rfl, (few_some hp e).2.2 l h1 h2⟩

end Go.Proofs.Ytaioadjcdjmkdaa
