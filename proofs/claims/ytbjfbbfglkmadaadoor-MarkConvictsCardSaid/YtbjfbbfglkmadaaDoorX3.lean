/-
  All words of a size, one after another.
-/
import Derived.Test.YtbjfbbfglkmadaaDoorX1
namespace Go.Proofs.YtbjfbbfglkmadaaDoor
open Go.RowKit
set_option linter.unusedVariables false

def nxt (M : Int) : List Int → Option (List Int)
  | [] => none
  | d :: r => cond (decide (d = M - 1)) ((nxt M r).map fun r' => 0 :: r') (some ((d + 1) :: r))
def wds (M n : Nat) : List (List Int) := match n with
  | 0 => [[]]
  | n + 1 => (wds M n).flatMap fun r => (List.range' 0 M).map fun (m : Nat) => (m : Int) :: r
def Chn (M : Int) : List (List Int) → Prop
  | [] => False
  | [w] => nxt M w = none
  | w :: w' :: r => nxt M w = some w' ∧ Chn M (w' :: r)
theorem blk_chn {M : Nat} {r : List Int} {X : List (List Int)} (hX : (X = [] ∧ nxt M r = none) ∨ (∃ r' Y, X = (0 :: r') :: Y ∧ nxt M r = some r' ∧ Chn M X)) :
    ∀ (d j : Nat), j + d + 1 = M → Chn M (((List.range' j (d + 1)).map fun (m : Nat) => (m : Int) :: r) ++ X)
  | 0, j, h => by
    show Chn M (((j : Int) :: r) :: X)
    have e : decide ((j : Int) = (M : Int) - 1) = true := decide_eq_true (by omega)
    rcases hX with ⟨rfl, h2⟩ | ⟨r', Y, rfl, h2, h3⟩
    · show nxt M ((j : Int) :: r) = none
      rw [nxt, e, h2]; rfl
    · refine ⟨?_, h3⟩
      rw [nxt, e, h2]; rfl
  | d + 1, j, h => by
    have ih := blk_chn hX d (j + 1) (by omega)
    rw [List.range'_succ, List.map_cons]
    have e : decide ((j : Int) = (M : Int) - 1) = false := decide_eq_false (by omega)
    rw [List.range'_succ, List.map_cons] at ih ⊢
    refine ⟨?_, ih⟩
    rw [nxt, e, cond_false, show ((j : Int) + 1) = ((j + 1 : Nat) : Int) by omega]
theorem chn_up {M : Nat} (hM : 1 ≤ M) : ∀ {L : List (List Int)}, Chn M L → Chn M (L.flatMap fun r => (List.range' 0 M).map fun (m : Nat) => (m : Int) :: r)
  | [], h => h.elim
  | [w], h => by
    obtain ⟨d, rfl⟩ : ∃ d, M = d + 1 := ⟨M - 1, by omega⟩
    rw [List.flatMap_cons, List.flatMap_nil]
    exact blk_chn (.inl ⟨rfl, h⟩) d 0 (by omega)
  | w :: w' :: r, h => by
    obtain ⟨h1, h2⟩ := h
    have ih := chn_up hM h2
    obtain ⟨d, rfl⟩ : ∃ d, M = d + 1 := ⟨M - 1, by omega⟩
    rw [List.flatMap_cons]
    refine blk_chn (.inr ⟨w', ?_, ?_, h1, ih⟩) d 0 (by omega)
    · exact ((List.range' 1 d).map fun (m : Nat) => (m : Int) :: w') ++ r.flatMap fun r => (List.range' 0 (d + 1)).map fun (m : Nat) => (m : Int) :: r
    · rw [List.flatMap_cons, List.range'_succ]; rfl
theorem wds_chn {M : Nat} (hM : 1 ≤ M) : ∀ n, Chn M (wds M n)
  | 0 => rfl
  | n + 1 => chn_up hM (wds_chn hM n)
theorem wds_head {M : Nat} (hM : 1 ≤ M) : ∀ n, ∃ Y, wds M n = List.replicate n 0 :: Y
  | 0 => ⟨[], rfl⟩
  | n + 1 => by
    obtain ⟨Y, h⟩ := wds_head hM n
    obtain ⟨d, rfl⟩ : ∃ d, M = d + 1 := ⟨M - 1, by omega⟩
    rw [wds, h, List.flatMap_cons, List.range'_succ]
    exact ⟨_, rfl⟩
theorem wds_mem {M : Nat} : ∀ {n : Nat} {w : List Int}, w ∈ wds M n ↔ w.length = n ∧ ∀ m ∈ w, 0 ≤ m ∧ m < (M : Int)
  | 0, w => by
    rw [wds, List.mem_singleton]
    exact ⟨fun h => by rw [h]; simp, fun h => List.eq_nil_of_length_eq_zero h.1⟩
  | n + 1, w => by
    rw [wds]
    simp only [List.mem_flatMap, List.mem_map, List.mem_range'_1]
    constructor
    · rintro ⟨r, hr, m, hm, rfl⟩
      obtain ⟨h1, h2⟩ := wds_mem.1 hr
      refine ⟨by simp [h1], fun x hx => ?_⟩
      rcases List.mem_cons.1 hx with rfl | hx
      · omega
      · exact h2 x hx
    · rintro ⟨h1, h2⟩
      cases w with
      | nil => simp at h1
      | cons x r =>
        have hx := h2 x (by simp)
        exact ⟨r, wds_mem.2 ⟨by simpa using h1, fun y hy => h2 y (by simp [hy])⟩, x.toNat, by omega, by rw [show ((x.toNat : Nat) : Int) = x by omega]⟩
theorem wds_len (M : Nat) : ∀ n, (wds M n).length = M ^ n
  | 0 => rfl
  | n + 1 => by
    rw [wds, List.length_flatMap, Nat.pow_succ, ← wds_len M n]
    induction wds M n with
    | nil => simp
    | cons x r ih => rw [List.map_cons, List.sum_cons, ih, List.length_cons, List.length_map, List.length_range', Nat.add_mul, Nat.one_mul, Nat.add_comm]
theorem nxt_loop {ρ : Type} {M : Nat} {L : Nat → Int → List Int → Option ρ} {ret : Option ρ} {rec : List Int → Option ρ} {P : Nat} (hP : P ≤ 100)
    (hL : ∀ n (k : Nat) o, o.length = P → k ≤ P → L (n + 1) (k : Int) o = cond (decide (k < P)) (cond (decide (o.getD k 0 = (M : Int) - 1)) (L n ((k + 1 : Nat) : Int) (o.set k 0)) (rec (o.set k (w64 (o.getD k 0 + 1))))) ret)
    (hM : M ≤ 100) : ∀ (r : List Int) (k n : Nat), k + r.length = P → r.length < n → (∀ m ∈ r, 0 ≤ m ∧ m < (M : Int)) →
      L n (k : Int) (List.replicate k 0 ++ r) = match nxt M r with | some r' => rec (List.replicate k 0 ++ r') | none => ret := by
  intro r
  induction r with
  | nil =>
    intro k n h1 h2 _
    obtain ⟨n, rfl⟩ : ∃ j, n = j + 1 := ⟨n - 1, by omega⟩
    have hk : k = P := by simpa using h1
    rw [hL n k _ (by simp [hk]) (by omega), decide_eq_false (by omega)]; rfl
  | cons d r ih =>
    intro k n h1 h2 hm
    obtain ⟨n, rfl⟩ : ∃ j, n = j + 1 := ⟨n - 1, by omega⟩
    simp only [List.length_cons] at h1 h2
    have hd := hm d (by simp)
    have g : (List.replicate k (0 : Int) ++ d :: r).getD k 0 = d := by
      simp [List.getD_eq_getElem?_getD, List.getElem?_append_right]
    have st : ∀ v, (List.replicate k (0 : Int) ++ d :: r).set k v = List.replicate k 0 ++ v :: r := fun v => by
      rw [List.set_append_right _ _ (by simp)]; simp
    rw [hL n k _ (by simp; omega) (by omega), decide_eq_true (by omega), cond_true, g, st, st, nxt]
    cases e : decide (d = (M : Int) - 1) with
    | true =>
      have e1 : List.replicate k (0 : Int) ++ 0 :: r = List.replicate (k + 1) 0 ++ r := by
        rw [List.replicate_succ', List.append_assoc]; rfl
      rw [cond_true, cond_true, e1, ih (k + 1) n (by omega) (by omega) fun m h => hm m (by simp [h])]
      cases nxt M r with
      | none => rfl
      | some r' =>
        rw [List.replicate_succ']
        show rec (List.replicate k 0 ++ [0] ++ r') = rec (List.replicate k 0 ++ 0 :: r')
        rw [List.append_assoc]; rfl
    | false => rw [cond_false, cond_false, w64_small (by omega)]
theorem all_words {ρ σ : Type} {M : Nat} {L : Nat → σ → List Int → Option ρ} {step : σ → List Int → σ} {fin : σ → ρ} {I : Nat → σ → Prop} {W : List Int → Prop}
    (hL : ∀ n k s o, I (k + 1) s → W o → L (n + 1) s o = match nxt M o with | some o' => L n (step s o) o' | none => some (fin (step s o))) (hI : ∀ k s o, I (k + 1) s → I k (step s o)) :
    ∀ (X : List (List Int)) (o : List Int) (n : Nat) (s : σ), Chn M (o :: X) → X.length < n → I (X.length + 1) s → (∀ w ∈ o :: X, W w) → L n s o = some (fin ((o :: X).foldl step s))
  | [], o, n, s, hc, hn, hs, hm => by
    obtain ⟨n, rfl⟩ : ∃ j, n = j + 1 := ⟨n - 1, by omega⟩
    rw [hL n _ s o hs (hm o (by simp)), show nxt M o = none from hc]; rfl
  | o' :: X, o, n, s, hc, hn, hs, hm => by
    obtain ⟨n, rfl⟩ : ∃ j, n = j + 1 := ⟨n - 1, by omega⟩
    obtain ⟨h1, h2⟩ := hc
    rw [hL n _ s o hs (hm o (by simp)), h1]
    exact all_words hL hI X o' n (step s o) h2 (by simp only [List.length_cons] at hn; omega) (hI _ s o hs) fun w hw => hm w (List.mem_cons_of_mem _ hw)
end Go.Proofs.YtbjfbbfglkmadaaDoor
