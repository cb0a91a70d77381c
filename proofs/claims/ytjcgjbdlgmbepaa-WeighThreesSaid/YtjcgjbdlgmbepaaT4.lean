/-
  Fewest and Set; the law WeighLoads.
-/
import Derived.Test.YtjcgjbdlgmbepaaT3
namespace Go.Proofs.Ytjcgjbdlgmbepaa
open Go.RowKit
set_option linter.unusedVariables false

theorem eqLoop2 (a b : List Int) (L : Nat → Int → Option Bool) (hl : a.length = b.length)
    (h0 : ∀ n (t : Nat), t < a.length → L (n + 1) t = cond (a.getD t 0 != b.getD t 0) (some false) (L n ((t + 1 : Nat) : Int))) (he : ∀ n, L (n + 1) a.length = some true) (n : Nat) (hn : a.length < n) : L n 0 = some (decide (a = b)) := by
  have := rangeIx a 0 (fun n (_ : Unit) t => L n t) (fun _ _ _ => True) (fun t xs _ => some (decide (xs = b.drop t)))
    (fun n s t x rest ht hx _ ih => by
      have hb : t < b.length := by omega
      have e : b.drop t = b.getD t 0 :: b.drop (t + 1) := by
        rw [List.drop_eq_getElem_cons hb, List.getD_eq_getElem?_getD, List.getElem?_eq_getElem hb]; rfl
      show L (n + 1) t = _
      rw [h0 n t ht, hx, ih () trivial, e]
      by_cases q : x = b.getD t 0
      · simp [q]
      · have e1 : (x != b.getD t 0) = true := by rw [bne_iff_ne]; exact q
        have e2 : decide (x :: rest = b.getD t 0 :: b.drop (t + 1)) = false := decide_eq_false fun h => q (List.cons.inj h).1
        rw [e1, e2]; rfl)
    (fun n s _ => by rw [he]; simp [hl]) n () hn trivial
  simpa using this
def Beq2 (a b : List Int) : Option Bool := if a.length ≤ 10000 then some (decide (a = b)) else none
theorem KB21b : FnOk Try.prog 21 (F21 Beq2) := ok21 Beq2 fun a b r h => ⟨20000, by
  simp only [Beq2] at h
  split at h
  · rename_i hl
    rw [← h, m21]
    by_cases e : a.length = b.length
    · rw [eq_len e, cond_false]
      exact eqLoop2 a b (l21a 20000 a b) e (fun n t ht => by simp only [l21a, ixA ht, ixB ht, ixB (e ▸ ht : t < b.length), cond_true, chk_true, Int.toNat_natCast, ixW ht (by omega)]) (fun n => by simp only [l21a, ixE, cond_false]) 20000 (by omega)
    · rw [(neq_len e).1, (neq_len e).2]; rfl
  · cases h⟩

/-! ### weights of threes -/
def threes (k : Nat) : List Int := (List.range k).map fun i => (3 : Int) ^ i
theorem threes_succ (k : Nat) : threes (k + 1) = threes k ++ [(3 : Int) ^ k] := by simp [threes, List.range_succ]
theorem R_snoc {ws : List Int} {w x : Int} : R (ws ++ [w]) x ↔ R ws (x - w) ∨ R ws x ∨ R ws (x + w) := by
  rw [← mem_sumS, sumS, List.foldl_append, List.foldl_cons, List.foldl_nil, mem_stepS]
  constructor
  · rintro ⟨n, hn, h⟩
    have hn := mem_sumS.1 hn
    rcases h with rfl | rfl | rfl
    · right; right; rwa [show n - w + w = n by omega]
    · right; left; exact hn
    · left; rwa [show n + w - w = n by omega]
  · rintro (h | h | h)
    · exact ⟨x - w, mem_sumS.2 h, by omega⟩
    · exact ⟨x, mem_sumS.2 h, by omega⟩
    · exact ⟨x + w, mem_sumS.2 h, by omega⟩
theorem threes_R : ∀ k : Nat, ∃ m : Int, (3 : Int) ^ k = 2 * m + 1 ∧ 0 ≤ m ∧ ∀ x, -m ≤ x → x ≤ m → R (threes k) x
  | 0 => ⟨0, rfl, by omega, fun x h1 h2 => R_nil.2 (by omega)⟩
  | k + 1 => by
    obtain ⟨m, e, h0, h⟩ := threes_R k
    refine ⟨3 * m + 1, by rw [Int.pow_succ, e]; omega, by omega, fun x h1 h2 => ?_⟩
    rw [threes_succ, R_snoc, e]
    by_cases c : x > m
    · left; exact h _ (by omega) (by omega)
    · by_cases c2 : x < -m
      · right; right; exact h _ (by omega) (by omega)
      · right; left; exact h _ (by omega) (by omega)
theorem threes_ok : ∀ k ∈ [1, 2, 3, 4, 5, 6, 7], wE (threes k) = 0 := by decide +kernel
theorem rl_le : ∀ (l : List Int) (n : Int), n ≤ rl n l
  | [], n => Int.le_refl _
  | x :: xs, n => by
    rw [rl]
    cases x == n + 1 with
    | true => have := rl_le xs (n + 1); rw [cond_true]; omega
    | false => exact Int.le_refl _
theorem rl_ge : ∀ (l : List Int) (n m : Int), l.Pairwise (· < ·) → (∀ x ∈ l, n < x) → (∀ x, n < x → x ≤ m → x ∈ l) → n ≤ m → m ≤ rl n l
  | [], n, m, _, _, h, hn => by
    by_cases c : n = m
    · rw [c]; exact Int.le_refl _
    · have := h (n + 1) (by omega) (by omega); cases this
  | x :: xs, n, m, ha, hl, h, hn => by
    obtain ⟨a, b⟩ := List.pairwise_cons.1 ha
    by_cases c : n = m
    · rw [← c]; exact rl_le _ _
    · have hm := h (n + 1) (by omega) (by omega)
      have hx := hl x (List.mem_cons_self ..)
      rcases List.mem_cons.1 hm with e | hm
      · rw [rl, show (x == n + 1) = true by simp [e], cond_true]
        refine rl_ge xs (n + 1) m b (fun y hy => by have := a y hy; omega) (fun y h1 h2 => ?_) (by omega)
        rcases List.mem_cons.1 (h y (by omega) h2) with e2 | hy
        · omega
        · exact hy
      · have := a _ hm; omega
theorem reach_ge {ws : List Int} {m : Int} (h0 : 0 ≤ m) (h : ∀ x, 0 < x → x ≤ m → R ws x) : m ≤ rl 0 (posL ws) :=
  rl_ge _ 0 m ((sumS_asc ws).filter _) (fun x hx => by simpa using (List.mem_filter.1 hx).2) (fun x h1 h2 => List.mem_filter.2 ⟨mem_sumS.2 (h x h1 h2), by simpa using h1⟩) h0

/-! ### Set and Fewest -/
def B26 (load : Int) : Option (List Int × Int) := m26 B57 20 load
theorem KB26 : FnOk Try.prog 26 (F26 B26) := ok26 B57 KB57 B26 fun l r h => ⟨20, h⟩
def B25 (load : Int) : Option (Int × Int) := m25 B58 20 load
theorem KB25 : FnOk Try.prog 25 (F25 B25) := ok25 B58 KB58 B25 fun l r h => ⟨20, h⟩
def B24 (load : Int) : Option (Int × Int) := m24 B26 0 load
theorem KB24 : FnOk Try.prog 24 (F24 B24) := ok24 B26 KB26 B24 fun l r h => ⟨0, h⟩
/-- How few. -/
def fewK (load : Int) : Nat := if load ≤ 1 then 1 else if load ≤ 4 then 2 else if load ≤ 13 then 3 else if load ≤ 40 then 4 else if load ≤ 121 then 5 else if load ≤ 364 then 6 else 7
theorem set_all : ∀ k ∈ List.range 1093, m26 B57 20 ((k : Nat) + 1 : Int) = some (threes (fewK ((k : Nat) + 1 : Int)), 0) ∧ m25 B58 20 ((k : Nat) + 1 : Int) = some ((fewK ((k : Nat) + 1 : Int) : Int), 0) := by decide +kernel
theorem set_ok {load : Int} (h : 1 ≤ load ∧ load ≤ 1093) : B26 load = some (threes (fewK load), 0) ∧ B25 load = some ((fewK load : Int), 0) := by
  have := set_all (load - 1).toNat (List.mem_range.2 (by omega))
  rwa [show (((load - 1).toNat : Nat) : Int) + 1 = load by omega] at this
theorem set_bad {load : Int} (h : ¬ (1 ≤ load ∧ load ≤ 1093)) : B26 load = some ([], 3) ∧ B25 load = some (0, 3) := by
  constructor
  · rw [B26, m26, B57, decide_eq_false h]; rfl
  · rw [B25, m25, B58, decide_eq_false h]; rfl
theorem fewK_le {load : Int} (h : 1 ≤ load ∧ load ≤ 1093) : 1 ≤ fewK load ∧ fewK load ≤ 7 ∧ 2 * load + 1 ≤ (3 : Int) ^ fewK load ∧ (3 : Int) ^ (fewK load - 1) < 2 * load + 1 := by
  unfold fewK
  repeat' split
  all_goals (refine ⟨by omega, by omega, ?_, ?_⟩ <;> simp <;> omega)
theorem threes_len (k : Nat) : (threes k).length = k := by simp [threes]
theorem few_mem {k : Nat} (h : 1 ≤ k ∧ k ≤ 7) : k ∈ [1, 2, 3, 4, 5, 6, 7] := by simp; omega
theorem set_reach {load : Int} (h : 1 ≤ load ∧ load ≤ 1093) : ∃ r, reachS (threes (fewK load)) = (r, 0) ∧ load ≤ r := by
  obtain ⟨h1, h7, h3, _⟩ := fewK_le h
  have hw := threes_ok _ (few_mem ⟨h1, h7⟩)
  refine ⟨rl 0 (posL (threes (fewK load))), by rw [reachS, hw]; rfl, ?_⟩
  obtain ⟨m, e, h0, hr⟩ := threes_R (fewK load)
  exact reach_ge (by omega) fun x a b => hr x (by omega) (by omega)

/-- WeighLoads. -/
theorem loads_law (ws : List Int) (load : Int) : m3 (some true) B17 B17 B19 B19 Beq2 B22 B22 B24 B25 B26 0 ws load = some true := by
  rw [m3]
  cases decide ((ws.length : Int) > 30) with
  | true => rfl
  | false =>
    have hl : (loadsS ws).1.length ≤ 10000 := by
      unfold loadsS
      cases e : wE ws == 0 with
      | false => exact Nat.zero_le _
      | true => have := posL_len (by simpa using e : wE ws = 0); show (posL ws).length ≤ _; omega
    simp only [cond_false, B17, B19, Option.bind_some, Beq2, if_pos hl, decide_true, Bool.not_true, bne_self_eq_false, B22, B24, m24]
    by_cases h : 1 ≤ load ∧ load ≤ 1093
    · obtain ⟨e1, e2⟩ := set_ok h
      obtain ⟨r, e3, e4⟩ := set_reach h
      rw [e1, e2]
      simp only [Option.bind_some, threes_len, bne_self_eq_false, cond_false, e3, beq_self_eq_true, cond_true, decide_eq_true (show r ≥ load from e4)]
    · obtain ⟨e1, e2⟩ := set_bad h
      rw [e1, e2]
      rfl
theorem KB3 : FnOk Try.prog 3 (F3 fun _ _ => some true) := ok3 (some true) B17 B17 B19 B19 Beq2 B22 B22 B24 B25 B26 K16t KB17 KB18 KB19 KB20 KB21b KB22 KB23 KB24 KB25 KB26 _ fun ws load r h => ⟨0, by rw [← h]; exact loads_law ws load⟩
end Go.Proofs.Ytjcgjbdlgmbepaa
