/-
  Weights: sums, layings and what they balance.
-/
import Derived.Test.YtjcgjbdlgmbepaaS2
namespace Go.Proofs.Ytjcgjbdlgmbepaa
open Go.RowKit
set_option linter.unusedVariables false

/-! ### sorted lists -/
theorem compact_mem {zs : List Int} {x : Int} : x ∈ Go.Lib.compact zs ↔ x ∈ zs := by
  unfold Go.Lib.compact Go.Lib.compactUpTo
  simp only [List.mem_map, List.mem_filter, List.mem_range]
  constructor
  · rintro ⟨j, ⟨hj, _⟩, rfl⟩
    rw [getElem!_pos zs.toArray j (by simpa using hj)]
    simp
  · intro h
    obtain ⟨i, hi, rfl⟩ := List.getElem_of_mem h
    have main : ∀ i, (hi : i < zs.length) → ∃ a, (a < zs.length ∧ Go.Lib.keeps zs.toArray a = true) ∧ zs.toArray[a]! = zs[i] := by
      intro i
      induction i with
      | zero => intro hi; exact ⟨0, ⟨hi, by simp [Go.Lib.keeps]⟩, by rw [getElem!_pos zs.toArray 0 (by simpa using hi)]; simp⟩
      | succ i ih =>
        intro hi
        by_cases k : Go.Lib.keeps zs.toArray (i + 1) = true
        · exact ⟨i + 1, ⟨hi, k⟩, by rw [getElem!_pos zs.toArray (i + 1) (by simpa using hi)]; simp⟩
        · obtain ⟨a, h1, h2⟩ := ih (by omega)
          refine ⟨a, h1, ?_⟩
          simp only [Go.Lib.keeps, decide_eq_true_eq, not_or, Nat.add_sub_cancel] at k
          have e := k.2
          rw [getElem!_pos zs.toArray (i + 1) (by simpa using hi), getElem!_pos zs.toArray i (by simp; omega)] at e
          have e : zs[i + 1] = zs[i] := by simpa using e
          rw [h2, e]
    exact main i hi
theorem compact_asc {zs : List Int} (h : zs.Pairwise fun a b => decide (a ≤ b) = true) : (Go.Lib.compact zs).Pairwise (· < ·) := by
  unfold Go.Lib.compact Go.Lib.compactUpTo
  rw [List.pairwise_map]
  have hr : ((List.range zs.length).filter (Go.Lib.keeps zs.toArray)).Pairwise (· < ·) := List.pairwise_lt_range.filter _
  refine hr.imp_of_mem fun {a b} ha hb hab => ?_
  simp only [List.mem_filter, List.mem_range] at ha hb
  have hk := hb.2
  simp only [Go.Lib.keeps, decide_eq_true_eq] at hk
  have hk := hk.resolve_left (by omega)
  have le : ∀ i j, (hi : i < zs.length) → (hj : j < zs.length) → i < j → zs[i] ≤ zs[j] := fun i j hi hj hij => by
    simpa using List.pairwise_iff_getElem.1 h i j hi hj hij
  rw [getElem!_pos zs.toArray b (by simpa using hb.1), getElem!_pos zs.toArray (b - 1) (by simp; omega)] at hk
  rw [getElem!_pos zs.toArray b (by simpa using hb.1), getElem!_pos zs.toArray a (by simpa using ha.1)]
  have hk : ¬ zs[b]'hb.1 = zs[b - 1]'(by omega) := by simpa using hk
  have l1 : zs[b - 1]'(by omega) ≤ zs[b]'hb.1 := le (b - 1) b (by omega) hb.1 (by omega)
  have l2 : zs[a]'ha.1 ≤ zs[b - 1]'(by omega) := by
    by_cases e : a = b - 1
    · subst e; exact Int.le_refl _
    · exact le a (b - 1) ha.1 (by omega) (by omega)
  show zs[a]'ha.1 < zs[b]'hb.1
  omega
theorem asc_eq {a b : List Int} (ha : a.Pairwise (· < ·)) (hb : b.Pairwise (· < ·)) (h : ∀ x, x ∈ a ↔ x ∈ b) : a = b := by
  have n : ∀ {l : List Int}, l.Pairwise (· < ·) → l.Nodup := fun h => h.imp fun h => by omega
  exact List.Perm.eq_of_pairwise (le := (· < ·)) (fun x y _ _ h1 h2 => by omega) ha hb ((List.perm_ext_iff_of_nodup (n ha) (n hb)).2 h)

/-! ### layings -/
def bal : List Int → List Int → Int
  | w :: ws, a :: bs => w * a + bal ws bs
  | [], _ => 0
  | _ :: _, [] => 0
def used : List Int → Int
  | [] => 0
  | a :: bs => cond (a != 0) 1 0 + used bs
def IsWay (a : Int) : Prop := a = 1 ∨ a = 0 ∨ a = -1
/-- What weights can balance. -/
def R (ws : List Int) (x : Int) : Prop := ∃ l : List Int, l.length = ws.length ∧ (∀ a ∈ l, IsWay a) ∧ bal ws l = x
theorem R_nil {x : Int} : R [] x ↔ x = 0 := by
  constructor
  · rintro ⟨l, _, _, rfl⟩; rfl
  · rintro rfl; exact ⟨[], rfl, (by simp), rfl⟩
theorem R_cons {w : Int} {ws : List Int} {x : Int} : R (w :: ws) x ↔ R ws (x - w) ∨ R ws x ∨ R ws (x + w) := by
  constructor
  · rintro ⟨l, hl, hw, rfl⟩
    match l, hl with
    | a :: bs, hl =>
      have ha := hw a (List.mem_cons_self ..)
      have r : R ws (bal ws bs) := ⟨bs, by simpa using hl, fun b hb => hw b (List.mem_cons_of_mem _ hb), rfl⟩
      simp only [bal]
      rcases ha with rfl | rfl | rfl
      · left; rw [show w * 1 + bal ws bs - w = bal ws bs by omega]; exact r
      · right; left; rw [show w * 0 + bal ws bs = bal ws bs by omega]; exact r
      · right; right; rw [show w * -1 + bal ws bs + w = bal ws bs by omega]; exact r
  · rintro (⟨l, h1, h2, h3⟩ | ⟨l, h1, h2, h3⟩ | ⟨l, h1, h2, h3⟩)
    · exact ⟨1 :: l, by simp [h1], fun a ha => by
        rcases List.mem_cons.1 ha with rfl | ha
        · exact .inl rfl
        · exact h2 a ha, by simp only [bal]; omega⟩
    · exact ⟨0 :: l, by simp [h1], fun a ha => by
        rcases List.mem_cons.1 ha with rfl | ha
        · exact .inr (.inl rfl)
        · exact h2 a ha, by simp only [bal]; omega⟩
    · exact ⟨-1 :: l, by simp [h1], fun a ha => by
        rcases List.mem_cons.1 ha with rfl | ha
        · exact .inr (.inr rfl)
        · exact h2 a ha, by simp only [bal]; omega⟩
theorem R_neg {ws : List Int} : ∀ {x : Int}, R ws x → R ws (-x) := by
  induction ws with
  | nil => intro x h; rw [R_nil] at h ⊢; omega
  | cons w ws ih =>
    intro x h
    rw [R_cons] at h ⊢
    rcases h with h | h | h
    · right; right; have := ih h; rwa [show -(x - w) = -x + w by omega] at this
    · right; left; exact ih h
    · left; have := ih h; rwa [show -(x + w) = -x - w by omega] at this
theorem R_zero (ws : List Int) : R ws 0 := by
  induction ws with
  | nil => exact R_nil.2 rfl
  | cons w ws ih => exact R_cons.2 (.inr (.inl ih))
def Pos (ws : List Int) : Prop := ∀ w ∈ ws, 1 ≤ w ∧ w ≤ 2000
theorem R_le {ws : List Int} (hp : ∀ w ∈ ws, 0 ≤ w) : ∀ {x : Int}, R ws x → -ws.sum ≤ x ∧ x ≤ ws.sum := by
  induction ws with
  | nil => intro x h; rw [R_nil] at h; simp; omega
  | cons w ws ih =>
    intro x h
    have h0 := hp w (List.mem_cons_self ..)
    have ih := @ih fun v hv => hp v (List.mem_cons_of_mem _ hv)
    rw [List.sum_cons]
    rcases R_cons.1 h with h | h | h <;> have := ih h <;> omega
theorem R_sum (ws : List Int) : R ws ws.sum := by
  induction ws with
  | nil => exact R_nil.2 rfl
  | cons w ws ih => rw [R_cons, List.sum_cons, show w + ws.sum - w = ws.sum by omega]; exact .inl ih

/-! ### the sums -/
def stepS (out : List Int) (w : Int) : List Int := Go.Lib.compact (srt (out.flatMap fun n => [n - w, n, n + w]))
def sumS (ws : List Int) : List Int := ws.foldl stepS [0]
theorem mem_stepS {out : List Int} {w x : Int} : x ∈ stepS out w ↔ ∃ n ∈ out, x = n - w ∨ x = n ∨ x = n + w := by
  unfold stepS
  rw [compact_mem, (srt_perm _).mem_iff, List.mem_flatMap]
  simp only [List.mem_cons, List.not_mem_nil, or_false]
theorem stepS_asc (out : List Int) (w : Int) : (stepS out w).Pairwise (· < ·) := compact_asc (srt_sorted _)
theorem stepS_len (out : List Int) (w : Int) : (stepS out w).length ≤ 3 * out.length := by
  unfold stepS
  have le : ∀ zs : List Int, (Go.Lib.compact zs).length ≤ zs.length := fun zs => by
    unfold Go.Lib.compact Go.Lib.compactUpTo
    rw [List.length_map]
    have := List.length_filter_le (Go.Lib.keeps zs.toArray) (List.range zs.length)
    simpa using this
  refine Nat.le_trans (le _) ?_
  rw [(srt_perm _).length_eq, List.length_flatMap]
  have : ∀ l : List Int, (l.map fun n => [n - w, n, n + w].length).sum = 3 * l.length := fun l => by
    induction l with
    | nil => rfl
    | cons x xs ih => rw [List.map_cons, List.sum_cons, ih, List.length_cons]; simp; omega
  exact Nat.le_of_eq (this out)
theorem foldl_mem : ∀ {ws out : List Int} {x : Int}, x ∈ ws.foldl stepS out ↔ ∃ n ∈ out, R ws (x - n)
  | [], out, x => by
    simp only [List.foldl_nil, R_nil]
    exact ⟨fun h => ⟨x, h, by omega⟩, fun ⟨n, h, e⟩ => by rwa [show x = n by omega]⟩
  | w :: ws, out, x => by
    rw [List.foldl_cons, foldl_mem]
    constructor
    · rintro ⟨m, hm, r⟩
      obtain ⟨n, hn, e⟩ := mem_stepS.1 hm
      refine ⟨n, hn, R_cons.2 ?_⟩
      rcases e with rfl | rfl | rfl
      · right; right; rwa [show x - n + w = x - (n - w) by omega]
      · right; left; exact r
      · left; rwa [show x - n - w = x - (n + w) by omega]
    · rintro ⟨n, hn, r⟩
      rcases R_cons.1 r with r | r | r
      · exact ⟨n + w, mem_stepS.2 ⟨n, hn, .inr (.inr rfl)⟩, by rwa [show x - (n + w) = x - n - w by omega]⟩
      · exact ⟨n, mem_stepS.2 ⟨n, hn, .inr (.inl rfl)⟩, r⟩
      · exact ⟨n - w, mem_stepS.2 ⟨n, hn, .inl rfl⟩, by rwa [show x - (n - w) = x - n + w by omega]⟩
theorem mem_sumS {ws : List Int} {x : Int} : x ∈ sumS ws ↔ R ws x := by
  unfold sumS
  rw [foldl_mem]
  exact ⟨fun ⟨n, h, r⟩ => by simp at h; subst h; rwa [Int.sub_zero] at r, fun r => ⟨0, by simp, by rwa [Int.sub_zero]⟩⟩
theorem sumS_asc (ws : List Int) : (sumS ws).Pairwise (· < ·) := by
  unfold sumS
  have : ∀ (ws out : List Int), out.Pairwise (· < ·) → (ws.foldl stepS out).Pairwise (· < ·) := by
    intro ws
    induction ws with
    | nil => intro out h; exact h
    | cons w ws ih => intro out h; exact ih _ (stepS_asc ..)
  exact this ws [0] (by simp)
theorem sumS_len : ∀ (ws out : List Int), (ws.foldl stepS out).length ≤ 3 ^ ws.length * out.length
  | [], out => by simp
  | w :: ws, out => by
    rw [List.foldl_cons, List.length_cons, Nat.pow_succ]
    refine Nat.le_trans (sumS_len ws (stepS out w)) ?_
    rw [Nat.mul_assoc]
    exact Nat.mul_le_mul_left _ (stepS_len out w)
/-- What is above 0. -/
def posL (ws : List Int) : List Int := (sumS ws).filter fun x => decide (0 < x)
theorem asc_split : ∀ {l : List Int}, l.Pairwise (· < ·) → l = l.filter (fun x => decide (x < 0)) ++ (l.filter (fun x => decide (x = 0)) ++ l.filter fun x => decide (0 < x))
  | [], _ => rfl
  | y :: ys, h => by
    obtain ⟨a, b⟩ := List.pairwise_cons.1 h
    have ih := asc_split b
    rcases Int.lt_trichotomy y 0 with h1 | h1 | h1
    · simp only [List.filter_cons, decide_eq_true h1, decide_eq_false (show ¬ y = 0 by omega), decide_eq_false (show ¬ 0 < y by omega), if_true, Bool.false_eq_true, if_false, List.cons_append]
      rw [← ih]
    · have e1 : ys.filter (fun x => decide (x < 0)) = [] := List.filter_eq_nil_iff.2 fun x hx => by have := a x hx; simp; omega
      have e2 : ys.filter (fun x => decide (x = 0)) = [] := List.filter_eq_nil_iff.2 fun x hx => by have := a x hx; simp; omega
      simp only [List.filter_cons, decide_eq_false (show ¬ y < 0 by omega), decide_eq_true h1, decide_eq_false (show ¬ 0 < y by omega), if_true, Bool.false_eq_true, if_false, e1, e2, List.nil_append, List.cons_append] at ih ⊢
      rw [← ih]
    · have e1 : ys.filter (fun x => decide (x < 0)) = [] := List.filter_eq_nil_iff.2 fun x hx => by have := a x hx; simp; omega
      have e2 : ys.filter (fun x => decide (x = 0)) = [] := List.filter_eq_nil_iff.2 fun x hx => by have := a x hx; simp; omega
      simp only [List.filter_cons, decide_eq_false (show ¬ y < 0 by omega), decide_eq_false (show ¬ y = 0 by omega), decide_eq_true h1, if_true, Bool.false_eq_true, if_false, e1, e2, List.nil_append] at ih ⊢
      rw [← ih]
theorem neg_pos (ws : List Int) : ((sumS ws).filter fun x => decide (x < 0)).length = (posL ws).length := by
  have e : ((sumS ws).filter fun x => decide (x < 0)).Perm ((posL ws).map fun x => -x) := by
    have nd := (sumS_asc ws)
    have nd1 : ((sumS ws).filter fun x => decide (x < 0)).Nodup := (nd.filter _).imp fun h => by omega
    have nd2 : ((posL ws).map fun x => -x).Nodup := List.pairwise_map.2 ((nd.filter _).imp fun h => by omega)
    refine (List.perm_ext_iff_of_nodup nd1 nd2).2 fun x => ?_
    simp only [posL, List.mem_filter, List.mem_map, mem_sumS, decide_eq_true_eq]
    constructor
    · intro ⟨r, h⟩; exact ⟨-x, ⟨R_neg r, by omega⟩, by omega⟩
    · rintro ⟨y, ⟨r, h⟩, rfl⟩; exact ⟨R_neg r, by omega⟩
  rw [e.length_eq, List.length_map]
theorem zero_one (ws : List Int) : (sumS ws).filter (fun x => decide (x = 0)) = [0] := by
  refine asc_eq ((sumS_asc ws).filter _) (by simp) fun x => ?_
  simp only [List.mem_filter, mem_sumS, decide_eq_true_eq, List.mem_singleton]
  exact ⟨fun h => h.2, fun h => ⟨h ▸ R_zero ws, h⟩⟩
/-- The loads are behind the middle. -/
theorem half (ws : List Int) : (sumS ws).length = 2 * (posL ws).length + 1 ∧ (sumS ws).drop ((posL ws).length + 1) = posL ws := by
  have e := asc_split (sumS_asc ws)
  rw [zero_one] at e
  have hn := neg_pos ws
  have hp : (sumS ws).filter (fun x => decide (0 < x)) = posL ws := rfl
  rw [hp] at e
  constructor
  · rw [e]; simp [hn]; omega
  · rw [e, List.drop_append, hn]
    simp [← hn]
end Go.Proofs.Ytjcgjbdlgmbepaa
