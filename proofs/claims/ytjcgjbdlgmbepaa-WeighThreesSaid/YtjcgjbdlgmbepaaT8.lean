/-
  The law WeighLeast.
-/
import Derived.Test.YtjcgjbdlgmbepaaT7
namespace Go.Proofs.Ytjcgjbdlgmbepaa
open Go.RowKit
set_option linter.unusedVariables false

def B46 (ws l : List Int) : Option (Int × Int) := if wE ws = 0 ∧ l.length = ws.length ∧ okLay l = true then some (bal ws l, used l) else none
theorem KB46 : FnOk Try.prog 46 (F46 B46) := ok46 B46 fun ws l r h => ⟨1001, by
  simp only [B46] at h
  split at h
  · rename_i hk
    obtain ⟨hw, hl, ho⟩ := hk
    obtain ⟨h7, hp, _⟩ := wE_zero hw
    have ho := okLay_iff.1 ho
    rw [← h, m46]
    have main := rangeIx l 0 (fun n (s : Int × Int) t => l46a 1001 ws l n s.1 s.2 t) (fun t xs s => (-14000 ≤ s.1 - 2000 * (xs.length : Int) ∧ s.1 + 2000 * (xs.length : Int) ≤ 14000) ∧ 0 ≤ s.2 ∧ s.2 + xs.length ≤ 7)
      (fun t xs s => some (s.1 + bal (ws.drop t) xs, s.2 + used xs))
      (fun n s t a rest ht ha0 hI ih => by
        obtain ⟨⟨i1, i2⟩, i3, i4⟩ := hI
        simp only [List.length_cons] at i1 i2 i4
        have htw : t < ws.length := by omega
        have ha := ho a (getD_mem ht ha0)
        have e : ws.drop t = ws.getD t 0 :: ws.drop (t + 1) := by
          rw [List.drop_eq_getElem_cons htw, List.getD_eq_getElem?_getD, List.getElem?_eq_getElem htw]; rfl
        have hxp := hp (ws.getD t 0) (getD_mem htw rfl)
        generalize hx : ws.getD t 0 = x at e hxp
        have hb : -2000 ≤ a * x ∧ a * x ≤ 2000 := by rcases ha with rfl | rfl | rfl <;> omega
        have hu : a * a = cond (a != 0) 1 0 := by rcases ha with rfl | rfl | rfl <;> rfl
        have hu2 : 0 ≤ a * a ∧ a * a ≤ 1 := by rcases ha with rfl | rfl | rfl <;> omega
        simp only [l46a, ixA ht, ixB ht, ixB htw, cond_true, chk_true, Int.toNat_natCast, ha0, hx, ixW ht (by omega), w64_small (show -4611686018427387904 ≤ a * x ∧ a * x ≤ 4611686018427387904 by omega), w64_small (show -4611686018427387904 ≤ a * a ∧ a * a ≤ 4611686018427387904 by omega),
          w64_small (show -4611686018427387904 ≤ s.1 + a * x ∧ s.1 + a * x ≤ 4611686018427387904 by omega), w64_small (show -4611686018427387904 ≤ s.2 + a * a ∧ s.2 + a * a ≤ 4611686018427387904 by omega)]
        rw [ih (s.1 + a * x, s.2 + a * a) ⟨⟨by show -14000 ≤ s.1 + a * x - _; omega, by show s.1 + a * x + _ ≤ _; omega⟩, by show 0 ≤ s.2 + a * a; omega, by show s.2 + a * a + _ ≤ _; omega⟩, e]
        simp only [bal, used]
        rw [← hu, Int.mul_comm a x, Int.add_assoc, Int.add_assoc])
      (fun n s hI => by
        simp only [l46a, ixE, cond_false]
        rw [hl, List.drop_length]
        simp [bal, used]) 1001 (0, 0) (by omega) ⟨by constructor <;> simp <;> omega, by simp, by simp; omega⟩
    simpa using main
  · cases h⟩

def ok47 (l ws : List Int) (n : Int) : Prop := wE ws = 0 ∧ l.length = ws.length ∧ okLay l = true ∧ -128 ≤ n ∧ n ≤ 127
instance (l ws : List Int) (n : Int) : Decidable (ok47 l ws n) := inferInstanceAs (Decidable (_ ∧ _))
def B47 (l ws : List Int) (n few : Int) (best : List Int) : Option (List Int × Int × Int × List Int) :=
  if ok47 l ws n then some (ws, n, (stepB ws n (best, few) l).2, (stepB ws n (best, few) l).1) else none
theorem KB47 : FnOk Try.prog 47 (F47c B47) := ok47c B46 KB46 B47 fun l ws n few best r h => ⟨0, by
  simp only [B47] at h
  split at h
  · rename_i hk
    obtain ⟨h1, h2, h3, h4, h5⟩ := hk
    rw [← h, m47c, B46, if_pos ⟨h1, h2, h3⟩, Option.bind_some, w64_small (show -4611686018427387904 ≤ n ∧ n ≤ 4611686018427387904 by omega), stepB_eq]
    show cond (bal ws l == n) (cond (decide (used l < few)) _ _) _ = _
    cases bal ws l == n with
    | false => rfl
    | true =>
      show cond (decide (used l < few)) _ _ = some (ws, n, (cond (decide (used l < few)) (l, used l) (best, few)).2, (cond (decide (used l < few)) (l, used l) (best, few)).1)
      cases decide (used l < few) <;> rfl
  · cases h⟩
def ok44b (k : Nat) (n0 : Int) (l ws : List Int) (n : Int) : Prop := 0 ≤ n0 ∧ n0 < (k : Int) ∧ (l.length : Int) + n0 = (ws.length : Int) ∧ okLay l = true ∧ wE ws = 0 ∧ -128 ≤ n ∧ n ≤ 127
instance (k : Nat) (n0 : Int) (l ws : List Int) (n : Int) : Decidable (ok44b k n0 l ws n) := inferInstanceAs (Decidable (_ ∧ _))
def B44b (k : Nat) (n0 : Int) (l ws : List Int) (n few : Int) (best : List Int) : Option (List Int × Int × Int × List Int) :=
  if ok44b k n0 l ws n then some (ws, n, (((lays n0.toNat).map (l ++ ·)).foldl (stepB ws n) (best, few)).2, (((lays n0.toNat).map (l ++ ·)).foldl (stepB ws n) (best, few)).1) else none
theorem lays_split {σ : Type} (f : σ → List Int → σ) (l : List Int) (k : Nat) (s : σ) : ((lays (k + 1)).map (l ++ ·)).foldl f s = ((lays k).map (l ++ [-1] ++ ·)).foldl f (((lays k).map (l ++ [0] ++ ·)).foldl f (((lays k).map (l ++ [1] ++ ·)).foldl f s)) := by
  have e : ∀ a : Int, ((lays k).map (a :: ·)).map (l ++ ·) = (lays k).map (l ++ [a] ++ ·) := fun a => by rw [List.map_map]; exact List.map_congr_left fun x _ => by simp
  rw [lays_cons, List.map_append, List.map_append, List.foldl_append, List.foldl_append, e, e, e]
theorem okLay_snoc {l : List Int} {v : Int} (h : okLay l = true) (hv : IsWay v) : okLay (l ++ [v]) = true := by
  rw [okLay_iff] at h ⊢
  intro a ha
  rcases List.mem_append.1 ha with ha | ha
  · exact h a ha
  · rw [List.mem_singleton.1 ha]; exact hv
theorem KB44b : ∀ k, FnOk Try.prog 44 (F44c47 (B44b k))
  | 0 => by
    intro args Of x hx
    simp only [F44c47] at hx
    split at hx
    · simp only [B44b] at hx
      rw [if_neg (by intro h; have := h.1; have := h.2.1; omega)] at hx
      cases hx
    · cases hx
  | k + 1 => ok44c47 (B44b k) B47 B51t (KB44b k) KB47 KB51t (B44b (k + 1)) fun n0 l ws n few best r h => ⟨1001, by
    simp only [B44b] at h
    split at h
    · rename_i hk
      obtain ⟨h0, hk1, hl, ho, hw, hn0, hn1⟩ := hk
      have h7 := (wE_zero hw).1
      rw [← h, m44c47]
      by_cases hz : n0 = 0
      · subst hz
        rw [show ((0 : Int) == 0) = true from rfl, cond_true, B47, if_pos ⟨hw, by omega, ho, hn0, hn1⟩, Option.bind_some]
        show _ = some (ws, n, (([[]] : List (List Int)).map (l ++ ·)).foldl (stepB ws n) (best, few) |>.2, (([[]] : List (List Int)).map (l ++ ·)).foldl (stepB ws n) (best, few) |>.1)
        simp only [List.map_cons, List.map_nil, List.foldl_cons, List.foldl_nil, List.append_nil]
      · rw [beq_false_of_ne hz, cond_false]
        have hs1 : small (0 + l.length) 8 = true := small_of (by omega) (by omega)
        have hs2 : small (([] ++ l : List Int).length + 1) 8 = true := small_of (by simp; omega) (by omega)
        obtain ⟨m, rfl⟩ : ∃ m : Nat, n0 = (m : Int) + 1 := ⟨(n0 - 1).toNat, by omega⟩
        have em : ((m : Int) + 1 - 1) = (m : Int) := by omega
        have hwm : w64 (m : Int) = (m : Int) := w64_small (by omega)
        have em2 : ((m : Int) + 1).toNat = m + 1 := by omega
        have call : ∀ (v : Int) (q : List Int × Int), IsWay v → B44b k (m : Int) ([] ++ l ++ [v]) ws n q.2 q.1 = some (ws, n, (((lays m).map (l ++ [v] ++ ·)).foldl (stepB ws n) q).2, (((lays m).map (l ++ [v] ++ ·)).foldl (stepB ws n) q).1) := fun v q hv => by
          rw [List.nil_append, B44b, if_pos ⟨by omega, by omega, by simp; omega, okLay_snoc ho hv, hw, hn0, hn1⟩, Int.toNat_natCast]
        have one : ∀ (f : Nat) (t : Nat) (v : Int) (q : List Int × Int), t < 3 → ([1, 0, -1] : List Int).getD t 0 = v → IsWay v → l44c47a (B44b k) B47 B51t 1001 ((m : Int) + 1) l [1, 0, -1] (f + 1) (t : Int) ws n q.2 q.1 =
            l44c47a (B44b k) B47 B51t 1001 ((m : Int) + 1) l [1, 0, -1] f ((t + 1 : Nat) : Int) ws n (((lays m).map (l ++ [v] ++ ·)).foldl (stepB ws n) q).2 (((lays m).map (l ++ [v] ++ ·)).foldl (stepB ws n) q).1 := by
          intro f t v q ht hv hw'
          simp only [l44c47a, ixA (show t < ([1, 0, -1] : List Int).length from ht), ixB (show t < ([1, 0, -1] : List Int).length from ht), cond_true, chk_true, Int.toNat_natCast, hv, hs1, hs2, em, hwm, call v q hw', Option.bind_some, w64_succ (show t < 4611686018427387904 by omega)]
        show l44c47a (B44b k) B47 B51t 1001 ((m : Int) + 1) l [1, 0, -1] 1001 ((0 : Nat) : Int) ws n (best, few).2 (best, few).1 = _
        rw [em2, lays_split, one 1000 0 1 (best, few) (by omega) rfl (.inl rfl), one 999 1 0 _ (by omega) rfl (.inr (.inl rfl)), one 998 2 (-1) _ (by omega) rfl (.inr (.inr rfl))]
        rfl
    · cases h⟩

/-! ### the least one -/
def BI (top : Int) (ws : List Int) (load : Int) (pre : List (List Int)) (s : List Int × Int) : Prop :=
  (s = ([], top) ∧ ∀ l ∈ pre, ¬ bal ws l = load) ∨ (0 ≤ s.2 ∧ s.2 ≤ 7 ∧ pre.find? (fun l => bal ws l == load && decide (used l ≤ s.2)) = some s.1 ∧ ∀ l ∈ pre, bal ws l = load → s.2 ≤ used l)
theorem bi_step {top : Int} (ht : 8 ≤ top) {ws : List Int} {load : Int} {pre : List (List Int)} {s : List Int × Int} {x : List Int} (hx : used x ≤ 7) (h : BI top ws load pre s) : BI top ws load (pre ++ [x]) (stepB ws load s x) := by
  rw [stepB_eq]
  by_cases c : bal ws x = load
  · rw [show (bal ws x == load) = true by simp [c], cond_true]
    by_cases d : used x < s.2
    · rw [decide_eq_true d, cond_true]
      have hn : pre.find? (fun l => bal ws l == load && decide (used l ≤ used x)) = none := by
        rw [List.find?_eq_none]
        intro l hl
        simp only [Bool.and_eq_true, beq_iff_eq, decide_eq_true_eq, not_and]
        intro hb hu
        rcases h with ⟨_, h⟩ | ⟨_, _, _, h⟩
        · exact h l hl hb
        · have := h l hl hb; omega
      refine .inr ⟨used_nonneg x, hx, ?_, fun l hl hb => ?_⟩
      · show (pre ++ [x]).find? (fun l => bal ws l == load && decide (used l ≤ used x)) = some x
        rw [List.find?_append, hn]; simp [c]
      · show used x ≤ used l
        rcases List.mem_append.1 hl with hl | hl
        · rcases h with ⟨_, h⟩ | ⟨_, _, _, h⟩
          · exact absurd hb (h l hl)
          · have := h l hl hb; omega
        · rw [List.mem_singleton.1 hl]; omega
    · rw [decide_eq_false d, cond_false]
      rcases h with ⟨h1, h⟩ | ⟨h1, h2, h3, h⟩
      · rw [h1] at d; exact absurd (show used x < top by omega) d
      · refine .inr ⟨h1, h2, by rw [List.find?_append, h3]; rfl, fun l hl hb => ?_⟩
        rcases List.mem_append.1 hl with hl | hl
        · exact h l hl hb
        · rw [List.mem_singleton.1 hl]; omega
  · rw [beq_false_of_ne c, cond_false]
    rcases h with ⟨h1, h⟩ | ⟨h1, h2, h3, h⟩
    · refine .inl ⟨h1, fun l hl => ?_⟩
      rcases List.mem_append.1 hl with hl | hl
      · exact h l hl
      · rw [List.mem_singleton.1 hl]; exact c
    · refine .inr ⟨h1, h2, by rw [List.find?_append, h3]; rfl, fun l hl hb => ?_⟩
      rcases List.mem_append.1 hl with hl | hl
      · exact h l hl hb
      · rw [List.mem_singleton.1 hl] at hb; exact absurd hb c
theorem bi_all {top : Int} (ht : 8 ≤ top) {ws : List Int} {load : Int} : ∀ (xs pre : List (List Int)) (s : List Int × Int), (∀ x ∈ xs, used x ≤ 7) → BI top ws load pre s → BI top ws load (pre ++ xs) (xs.foldl (stepB ws load) s)
  | [], pre, s, _, h => by simpa using h
  | x :: xs, pre, s, hx, h => by
    have := bi_all ht xs (pre ++ [x]) _ (fun y hy => hx y (List.mem_cons_of_mem _ hy)) (bi_step ht (hx x (List.mem_cons_self ..)) h)
    simpa using this
theorem bi_best {top : Int} (ht : 8 ≤ top) {ws : List Int} {load : Int} (h : ws.length ≤ 7) : BI top ws load (lays ws.length) ((lays ws.length).foldl (stepB ws load) ([], top)) := by
  have := bi_all ht (ws := ws) (load := load) (lays ws.length) [] ([], top) (fun x hx => by have := (mem_lays.1 hx).1; have := used_le x; omega) (.inl ⟨rfl, by simp⟩)
  simpa using this
/-- What both searches come to. -/
theorem least_same {ws : List Int} {load : Int} (hw : wE ws = 0) :
    ((lays ws.length).foldl (stepB ws load) ([], 99) = ([], 99) ∧ layS ws load = ([], 14)) ∨
    (∃ l f, (lays ws.length).foldl (stepB ws load) ([], 99) = (l, f) ∧ f ≤ 7 ∧ layS ws load = (l, 0) ∧ l.length = ws.length ∧ okLay l = true ∧ bal ws l = load) := by
  have h7 := (wE_zero hw).1.2
  have a := bi_best (top := 99) (by omega) (load := load) h7
  have b := bi_best (top := 8) (by omega) (load := load) h7
  have el : layS ws load = layF ((lays ws.length).foldl (stepB ws load) ([], 8)) := by rw [layS, hw]; rfl
  rw [el]
  generalize (lays ws.length).foldl (stepB ws load) ([], 99) = p at a
  generalize (lays ws.length).foldl (stepB ws load) ([], 8) = q at b
  rcases a with ⟨a1, a2⟩ | ⟨a1, a2, a3, a4⟩
  · left
    rcases b with ⟨b1, _⟩ | ⟨_, _, b3, _⟩
    · exact ⟨a1, by rw [b1]; rfl⟩
    · have m := List.find?_some b3
      simp only [Bool.and_eq_true, beq_iff_eq] at m
      exact absurd m.1 (a2 _ (List.mem_of_find?_eq_some b3))
  · right
    have m := List.mem_of_find?_eq_some a3
    have s := List.find?_some a3
    simp only [Bool.and_eq_true, beq_iff_eq, decide_eq_true_eq] at s
    rcases b with ⟨_, b2⟩ | ⟨b1, b2, b3, b4⟩
    · exact absurd s.1 (b2 _ m)
    · have m' := List.mem_of_find?_eq_some b3
      have s' := List.find?_some b3
      simp only [Bool.and_eq_true, beq_iff_eq, decide_eq_true_eq] at s'
      have e : p.2 = q.2 := by
        have := a4 _ m' s'.1
        have := b4 _ m s.1
        omega
      have e2 : p.1 = q.1 := by rw [e] at a3; exact Option.some.inj (a3.symm.trans b3)
      exact ⟨p.1, p.2, rfl, a2, by rw [layF_lo (by omega), e2], (mem_lays.1 m).1, okLay_iff.2 (mem_lays.1 m).2, s.1⟩
theorem least_law (N : Nat) (b : List Int) (n : Int) (hb : bytesOk b) (hn : -128 ≤ n ∧ n ≤ 127) : m9 (some true) Beq2 B28 B29 B43 (B44b 10) N b n = some true := by
  obtain ⟨ws, e43, M⟩ := made_is b hb
  have hlen := M.len
  have hw := M.ok
  have w1 : w64 n = n := w64_small (by omega)
  have w2 : w64 (n + 1) = n + 1 := w64_small (by omega)
  have e44 : B44b 10 (ws.length : Int) [] ws n 99 [] = some (ws, n, ((lays ws.length).foldl (stepB ws n) ([], 99)).2, ((lays ws.length).foldl (stepB ws n) ([], 99)).1) := by
    have em : (lays ws.length).map (([] : List Int) ++ ·) = lays ws.length := by
      refine Eq.trans (List.map_congr_left fun x _ => List.nil_append x) (List.map_id _)
    rw [B44b, if_pos ⟨by omega, by omega, by simp, rfl, hw, hn.1, hn.2⟩, Int.toNat_natCast, em]
  rw [m9, e43, Option.bind_some, e44, Option.bind_some]
  simp only [w1, w2, B28, Option.bind_some]
  rcases least_same (load := n) hw with ⟨p, q⟩ | ⟨l, f, p, hf, q, hl, ho, hbal⟩
  · rw [p, q]; rfl
  · have hf99 : (f == 99) = false := by rw [beq_eq_false_iff_ne]; omega
    have g0 : B29 ws l n = some 0 := by
      rw [B29, if_pos (by omega), balE, hw, ho, hbal, show (l.length != ws.length) = false by simp [hl]]; simp
    have g1 : B29 ws l (n + 1) = some 13 := by
      rw [B29, if_pos (by omega), balE, hw, ho, hbal, show (l.length != ws.length) = false by simp [hl], show (n != n + 1) = true by rw [bne_iff_ne]; omega]; rfl
    rw [p, q]
    simp only [hf99, cond_false, beq_self_eq_true, cond_true, Beq2, if_pos (show l.length ≤ 10000 by omega), decide_true, Option.bind_some, g0, g1]
theorem KB9 (b : List Int) (n : Int) (hb : bytesOk b) (hn : -128 ≤ n ∧ n ≤ 127) : FnOk Try.prog 9 (F9 fun c m => if c = b ∧ m = n then some true else none) :=
  ok9 (some true) Beq2 B28 B29 B43 (B44b 10) K16t KB21b KB27 KB29 KB43 (KB44b 10) _ fun c m r h => ⟨0, by
    split at h
    · rename_i hc
      rw [← h, hc.1, hc.2]; exact least_law 0 b n hb hn
    · cases h⟩
end Go.Proofs.Ytjcgjbdlgmbepaa
