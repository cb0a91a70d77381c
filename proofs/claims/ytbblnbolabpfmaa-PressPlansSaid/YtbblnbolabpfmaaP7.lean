/-
  Overfull, Least and Set, in the program and in the reference.
-/
import Derived.Test.YtbblnbolabpfmaaP6
namespace Go.Proofs.Ytbblnbolabpfmaa
open Go.RowKit
set_option linter.unusedVariables false

theorem OkO.six {l : List Od} (h : OkO l) : Ok6 l := ⟨h.len, fun o ho => by have := h.all o ho; omega⟩
theorem okO_of {l : List Od} (h : ckO l = 0) : Ok6 l := (ckO_ok h).six
theorem bne_F {x : Int} (h : x = 0) : (x != 0) = false := by simp [h]
theorem bne_T {x : Int} (h : ¬ x = 0) : (x != 0) = true := by simp [h]
theorem beq_F {x : Int} (h : ¬ x = 0) : (x == 0) = false := by simp [h]
theorem beq_T {x : Int} (h : x = 0) : (x == 0) = true := by simp [h]

/-! ### Overfull -/
def scn (n : Int) : Int → List Int → Int
  | _, [] => 0
  | last, x :: r => cond (!decide (0 ≤ x ∧ x ≤ n - 1)) 5 (cond (decide (x ≤ last)) 7 (scn n x r))

theorem scn_cons {n last x : Int} {r : List Int} (h : scn n last (x :: r) = 0) : (0 ≤ x ∧ x ≤ n - 1) ∧ last < x ∧ scn n x r = 0 := by
  rw [scn] at h
  cases h1 : decide (0 ≤ x ∧ x ≤ n - 1) with
  | false => rw [h1] at h; cases h
  | true =>
    rw [h1] at h
    cases h2 : decide (x ≤ last) with
    | true => rw [h2] at h; cases h
    | false =>
      rw [h2] at h
      exact ⟨of_decide_eq_true h1, by have := of_decide_eq_false h2; omega, h⟩
theorem scn_ok {n : Int} : ∀ {xs : List Int} {last : Int}, scn n last xs = 0 → (∀ i ∈ xs, 0 ≤ i ∧ i < n ∧ last < i) ∧ xs.Pairwise (· < ·)
  | [], _, _ => ⟨fun _ h => (by cases h), .nil⟩
  | x :: r, last, h => by
    obtain ⟨a, b, c⟩ := scn_cons h
    obtain ⟨d, e⟩ := scn_ok c
    refine ⟨fun i hi => ?_, List.pairwise_cons.2 ⟨fun y hy => (d y hy).2.2, e⟩⟩
    rcases List.mem_cons.1 hi with rfl | hi
    · omega
    · have := d i hi; omega
theorem scn_ix {n : Nat} {xs : List Int} {last : Int} (h : scn n last xs = 0) : Ix n xs := by
  obtain ⟨a, b⟩ := scn_ok h
  exact ⟨fun i hi => by have := a i hi; omega, b.imp fun h => by omega⟩

def fin16 (d : Int) : Int × Int := cond (d == 0) (0, 14) (d, 0)
def ovf (l : List Od) (set : List Int) : Int × Int := if ckO l = 0 then (if scn l.length (-1) set = 0 then fin16 (fo 0 (srt (daysOf l set))) else (0, scn l.length (-1) set)) else (0, ckO l)
def B16 (l : List Od) (set : List Int) : Option (Int × Int) := if l.length ≤ 1000 ∧ set.length ≤ 1000 then some (ovf l set) else none

theorem KB16 : FnOk Try.prog 16 (F16 B16) := ok16 B23 B49 B50 KB23 KB49 KB50 B16 fun l set r h => ⟨1001, by
  simp only [B16] at h
  split at h
  · rename_i hh
    obtain ⟨hl, hs⟩ := hh
    rw [← h, m16, B23, if_pos hl, Option.bind_some, ovf]
    by_cases hc : ckO l = 0
    · rw [if_pos hc, bne_F hc, cond_false]
      have hw : w64 ((l.length : Int) - 1) = (l.length : Int) - 1 := w64_small (by omega)
      exact rangeIx set 0 (fun n (s : Int) t => l16a B23 B49 B50 1001 l set n s t) (fun t xs last => ∃ pre, set = pre ++ xs ∧ ∀ i ∈ pre, 0 ≤ i ∧ i < (l.length : Int)) (fun t xs last => some (if scn l.length last xs = 0 then fin16 (fo 0 (srt (daysOf l set))) else (0, scn l.length last xs)))
        (fun n s t x rest ht hx hI ih => by
          obtain ⟨pre, e, hp⟩ := hI
          simp only [l16a, ixA ht, ixB ht, cond_true, chk_true, Int.toNat_natCast, ixW ht (by omega), hx, B49, hw, Option.bind_some, scn]
          by_cases hx : 0 ≤ x ∧ x ≤ (l.length : Int) - 1
          · simp only [decide_eq_true hx, Bool.not_true, cond_false]
            by_cases h2 : x ≤ s
            · simp [h2]
            · simp only [decide_eq_false h2, cond_false]
              exact ih x ⟨pre ++ [x], by rw [e]; simp, fun i hi => by
                rcases List.mem_append.1 hi with hi | hi
                · exact hp i hi
                · rcases List.mem_singleton.1 hi with rfl; omega⟩
          · simp [decide_eq_false hx])
        (fun n s hI => by
          obtain ⟨pre, e, hp⟩ := hI
          rw [List.append_nil] at e
          subst e
          have hb : B50 l set = some (fo 0 (srt (daysOf l set))) := if_pos ⟨hl, hs, hp⟩
          simp only [l16a, ixE, cond_false, hb, Option.bind_some, scn, if_true, fin16]
          cases fo 0 (srt (daysOf l set)) == 0 <;> rfl) 1001 (-1) (by omega) ⟨[], rfl, fun _ h => by cases h⟩
    · rw [if_neg hc, bne_T hc, cond_true]
  · cases h⟩

theorem tb_or (a b i : Nat) : tb (a ||| b) i = (tb a i || tb b i) := Nat.testBit_or _ _ _
theorem tb_pow (c i : Nat) : tb (2 ^ c) i = decide (c = i) := Nat.testBit_two_pow
theorem or_small {a c : Nat} (ha : a < 4096) (hc : c < 12) : a ||| 2 ^ c < 4096 := Nat.or_lt_two_pow (n := 12) ha (Nat.pow_lt_pow_right (by decide) hc)

theorem KB17 : FnOk Try.prog 17 (F17 B16) := ok17 B23 B51 B52 KB24 KB51 KB52 B16 fun l set r h => ⟨1001, by
  simp only [B16] at h
  split at h
  · rename_i hh
    obtain ⟨hl, hs⟩ := hh
    rw [← h, m17, B23, if_pos hl, Option.bind_some, ovf]
    by_cases hc : ckO l = 0
    · rw [if_pos hc, bne_F hc, cond_false]
      have h6 := okO_of hc
      have hlen := h6.len
      have hw : w64 ((l.length : Int) - 1) = (l.length : Int) - 1 := w64_small (by omega)
      have lastE : ∀ (pre : List Int) (k : Nat), (∀ i ∈ pre, 0 ≤ i ∧ i < (l.length : Int)) → pre.length = k + 1 → True := fun _ _ _ _ => trivial
      exact rangeIx set 0 (fun n (s : Int) t => l17a B23 B51 B52 1001 l set n s t) (fun t xs m => ∃ (pre : List Int) (k : Nat), set = pre ++ xs ∧ pre.length = t ∧ m = (k : Int) ∧ k < 4096 ∧ (∀ i, tb k i = mem pre i) ∧ (scn l.length (-1) set = 0 ↔ scn l.length (pre.getLastD (-1)) xs = 0) ∧ (scn l.length (-1) set = scn l.length (pre.getLastD (-1)) xs) ∧ ∀ i ∈ pre, 0 ≤ i ∧ i < (l.length : Int)) (fun t xs m => some (if scn l.length (-1) set = 0 then fin16 (fo 0 (srt (daysOf l set))) else (0, scn l.length (-1) set)))
        (fun n m t x rest ht hx hI ih => by
          obtain ⟨pre, k, e1, e2, rfl, e4, e5, e6, e7, hp⟩ := hI
          have hprev : set.getD (t - 1) 0 = pre.getLastD 0 ∨ t = 0 := by
            by_cases q : t = 0
            · exact .inr q
            · refine .inl ?_
              rw [e1, List.getD_eq_getElem?_getD, List.getElem?_append_left (by omega), ← e2, ← List.getLast?_eq_getElem?]
              cases pre with
              | nil => simp at e2; omega
              | cons a b => simp [List.getLastD, List.getLast?]
          simp only [l17a, ixA ht, ixB ht, cond_true, chk_true, Int.toNat_natCast, ixW ht (by omega), hx, B51, hw, Option.bind_some]
          rw [e7, scn]
          by_cases hxr : 0 ≤ x ∧ x ≤ (l.length : Int) - 1
          rotate_left
          · simp [decide_eq_false hxr]
          · have h1 := decide_eq_true hxr
            simp only [h1, Bool.not_true, cond_false, decide_eq_true hxr.1, chk_true]
            obtain ⟨c, rfl⟩ : ∃ c : Nat, x = c := ⟨x.toNat, by omega⟩
            have hor : bOr .i64 (k : Int) (IntKind.wrap .i64 ((1 : Int) * 2 ^ min (Int.toNat (c : Int)) 64)) = ((k ||| 2 ^ c : Nat) : Int) := by
              rw [one_i64 (by omega)]
              have : 2 ^ c ≤ 2 ^ 12 := Nat.pow_le_pow_right (by decide) (by omega)
              exact bOr_i64 (by omega) (by omega)
            rw [Int.toNat_natCast] at hor
            simp only [Int.toNat_natCast, hor]
            have hlast : (pre ++ [(c : Int)]).getLastD (-1) = (c : Int) := by simp
            have goal : scn l.length (-1) set = scn l.length (c : Int) rest → l17a B23 B51 B52 1001 l set n ((k ||| 2 ^ c : Nat) : Int) ((t + 1 : Nat) : Int) = some (if scn l.length (c : Int) rest = 0 then fin16 (fo 0 (srt (daysOf l set))) else (0, scn l.length (c : Int) rest)) := fun hq => by
              have := ih ((k ||| 2 ^ c : Nat) : Int) ⟨pre ++ [(c : Int)], k ||| 2 ^ c, by rw [e1]; simp, by simp [e2], rfl, or_small e4 (by omega), fun i => ?_, by rw [hlast, hq], by rw [hlast, hq], fun i hi => ?_⟩
              · rw [this, hq]
              · rw [tb_or, tb_pow, mem_app, e5, ins]
                congr 1
                by_cases q : c = i
                · subst q; simp
                · rw [decide_eq_false q]; symm; simp; omega
              · rcases List.mem_append.1 hi with hi | hi
                · exact hp i hi
                · rcases List.mem_singleton.1 hi with rfl; omega
            rw [scn, h1] at e7
            simp only [Bool.not_true, cond_false] at e7
            by_cases q : t = 0
            · subst q
              have : pre = [] := List.eq_nil_of_length_eq_zero e2
              subst this
              have hg : decide (((0 : Nat) : Int) > 0) = false := by decide
              have hle : decide ((c : Int) ≤ ([] : List Int).getLastD (-1)) = false := by simp; omega
              rw [hle, cond_false] at e7 ⊢
              rw [hg, cond_false]
              exact goal e7
            · have hpr := hprev.resolve_right q
              have hg : decide ((t : Int) > 0) = true := decide_eq_true (by omega)
              have he : w64 ((t : Int) - 1) = ((t - 1 : Nat) : Int) := by rw [w64_small (by omega)]; omega
              have hne : pre.getLastD (-1) = pre.getLastD 0 := by
                cases pre with
                | nil => simp at e2; omega
                | cons a b => simp [List.getLastD]
              rw [hg, cond_true, he]
              simp only [ixB (show t - 1 < set.length by omega), chk_true, Int.toNat_natCast, hpr, ← hne]
              by_cases h2 : (c : Int) ≤ pre.getLastD (-1)
              · simp only [decide_eq_true h2, cond_true]; simp
              · rw [decide_eq_false h2, cond_false] at e7
                simp only [decide_eq_false h2, cond_false]
                exact goal e7)
        (fun n m hI => by
          obtain ⟨pre, k, e1, e2, rfl, e4, e5, e6, e7, hp⟩ := hI
          rw [List.append_nil] at e1
          subst e1
          have hz : scn l.length (-1) set = 0 := by rw [e7]; rfl
          have hix := scn_ix hz
          have h1 : ∀ o ∈ l, 1 ≤ o.1 := fun o ho => (h6.all o ho).1.1
          have hFO := fo_FO h1 hix
          have hF2 := (ofm_FO h6 k).congr fun i _ => e5 i
          have hb : B52 l (k : Int) = some (ofm l k) := if_pos ⟨h6, by unfold mok; omega⟩
          rw [if_pos hz]
          simp only [l17a, ixE, cond_false, hb, Option.bind_some]
          rw [hF2.uniq hFO, fin16]
          cases fo 0 (srt (daysOf l set)) == 0 <;> rfl) 1001 0 (by omega) ⟨[], 0, rfl, rfl, rfl, by omega, fun i => by rw [tb_0]; rfl, Iff.rfl, rfl, fun _ h => by cases h⟩
    · rw [if_neg hc, bne_T hc, cond_true]
  · cases h⟩

/-! ### Least -/
def lea (l : List Od) : Int × Int := if ckO l = 0 then (leastO l, 0) else (0, ckO l)
def B18 (l : List Od) : Option (Int × Int) := if l.length ≤ 1000 then some (lea l) else none
theorem B53_ok {l : List Od} (h : Ok6 l) : B53 l = some (leastO l) := if_pos h
theorem B54_ok {l : List Od} (h : Ok6 l) : B54 l = some (leastO l, (bests l).map Int.ofNat) := by rw [B54, if_pos h, bst_bests h]
theorem KB18 : FnOk Try.prog 18 (F18 B18) := ok18 B23 B53 KB23 KB53 B18 fun l r h => ⟨0, by
  simp only [B18] at h
  split at h
  · rename_i hl
    rw [← h, m18, B23, if_pos hl, Option.bind_some, lea]
    by_cases hc : ckO l = 0
    · rw [if_pos hc, bne_F hc, cond_false, B53_ok (okO_of hc), Option.bind_some]
    · rw [if_neg hc, bne_T hc, cond_true]
  · cases h⟩
theorem KB19 : FnOk Try.prog 19 (F19 B18) := ok19 B23 B54 KB24 KB54 B18 fun l r h => ⟨0, by
  simp only [B18] at h
  split at h
  · rename_i hl
    rw [← h, m19, B23, if_pos hl, Option.bind_some, lea]
    by_cases hc : ckO l = 0
    · rw [if_pos hc, bne_F hc, cond_false, B54_ok (okO_of hc), Option.bind_some]
    · rw [if_neg hc, bne_T hc, cond_true]
  · cases h⟩

/-! ### Set -/
def stO (l : List Od) : List Int × Int := if ckO l = 0 then (greedy l [], 0) else ([], ckO l)
def B20 (l : List Od) : Option (List Int × Int) := if l.length ≤ 1000 then some (stO l) else none
theorem B55_ok {l : List Od} (h : Ok6 l) : B55 l = some (greedy l []) := if_pos ⟨by have := h.len; omega, by simp, fun _ h => by cases h⟩
theorem KB20 : FnOk Try.prog 20 (F20 B20) := ok20 B23 B55 KB23 KB55 B20 fun l r h => ⟨0, by
  simp only [B20] at h
  split at h
  · rename_i hl
    rw [← h, m20, B23, if_pos hl, Option.bind_some, stO]
    by_cases hc : ckO l = 0
    · rw [if_pos hc, bne_F hc, cond_false, B55_ok (okO_of hc), Option.bind_some]
    · rw [if_neg hc, bne_T hc, cond_true]
  · cases h⟩

/-- The numbers from t on that have p. -/
def lstF (p : Nat → Bool) : Nat → Nat → List Int
  | 0, _ => []
  | m + 1, t => cond (p t) ((t : Int) :: lstF p m (t + 1)) (lstF p m (t + 1))
def lstM (k : Nat) : List Int := lstF (tb k) 12 0

theorem lstF_len (p : Nat → Bool) : ∀ m t, (lstF p m t).length ≤ m
  | 0, t => by simp [lstF]
  | m + 1, t => by
    rw [lstF]
    have := lstF_len p m (t + 1)
    cases p t <;> simp <;> omega
theorem lstF_mem {p : Nat → Bool} : ∀ {m t : Nat} {i : Int}, i ∈ lstF p m t ↔ (t : Int) ≤ i ∧ i < ((t + m : Nat) : Int) ∧ p i.toNat = true
  | 0, t, i => by simp only [lstF, List.not_mem_nil, false_iff]; omega
  | m + 1, t, i => by
    have ih := lstF_mem (p := p) (m := m) (t := t + 1) (i := i)
    rw [lstF]
    by_cases q : i = (t : Int)
    · subst q
      cases hp : p t with
      | true => simp [hp]; omega
      | false =>
        rw [cond_false, ih]
        simp only [Int.toNat_natCast, hp]
        constructor
        · intro h; omega
        · intro h; exact absurd h.2.2 (by decide)
    · have e : (t : Int) ≤ i ↔ ((t + 1 : Nat) : Int) ≤ i := by omega
      cases hp : p t with
      | true => rw [cond_true, List.mem_cons, ih, e]; constructor
                · rintro (h | h)
                  · exact absurd h q
                  · exact ⟨h.1, by omega, h.2.2⟩
                · intro h; exact .inr ⟨h.1, by omega, h.2.2⟩
      | false => rw [cond_false, ih, e]; constructor
                 · intro h; exact ⟨h.1, by omega, h.2.2⟩
                 · intro h; exact ⟨h.1, by omega, h.2.2⟩
theorem lstF_sorted (p : Nat → Bool) : ∀ m t, (lstF p m t).Pairwise (· < ·)
  | 0, t => .nil
  | m + 1, t => by
    rw [lstF]
    cases p t with
    | false => exact lstF_sorted p m (t + 1)
    | true => exact List.pairwise_cons.2 ⟨fun y hy => by have := lstF_mem.1 hy; omega, lstF_sorted p m (t + 1)⟩

def B56 (k : Int) : Option (List Int) := if mok k then some (lstM k.toNat) else none
theorem KB56 : FnOk Try.prog 56 (F56 B56) := ok56 B56 fun k r h => ⟨100, by
  simp only [B56] at h
  split at h
  · rename_i hk
    obtain ⟨hk0, hk1⟩ := hk
    obtain ⟨k, rfl⟩ : ∃ j : Nat, k = j := ⟨k.toNat, by omega⟩
    rw [← h, m56, Int.toNat_natCast]
    have main : ∀ (m t n : Nat) (out : List Int), t + m = 12 → m < n → out.length ≤ t → l56a 100 (k : Int) n (t : Int) out = some (out ++ lstF (tb k) m t) := by
      intro m
      induction m with
      | zero =>
        intro t n out e hn ho
        obtain ⟨n, rfl⟩ : ∃ m, n = m + 1 := ⟨n - 1, by omega⟩
        simp only [l56a, decide_eq_false (show ¬ (t : Int) < 12 by omega), cond_false, lstF, List.append_nil]
      | succ m ih =>
        intro t n out e hn ho
        obtain ⟨n, rfl⟩ : ∃ m, n = m + 1 := ⟨n - 1, by omega⟩
        have hb := bit_i64 (s := k) (by omega) (show t ≤ 64 by omega)
        rw [Int.toNat_natCast] at hb
        have hs := small_of (n := out.length + 1) (eb := 8) (by omega) (by decide)
        simp only [l56a, decide_eq_true (show (t : Int) < 12 by omega), decide_eq_true (show (0 : Int) ≤ (t : Int) by omega), cond_true, chk_true, hb, Int.toNat_natCast, w64_succ (show t < 4611686018427387904 by omega), hs, lstF]
        rw [ih (t + 1) n (out ++ [(t : Int)]) (by omega) (by omega) (by simp; omega), ih (t + 1) n out (by omega) (by omega) (by omega)]
        show cond (tb k t) _ _ = _
        cases tb k t <;> simp
    exact main 12 0 100 [] rfl (by omega) (by simp)
  · cases h⟩

def befo : List Int → List Int → Bool
  | x :: a, y :: b => cond (x != y) (decide (x < y)) (befo a b)
  | _, _ => false
def B57 (a b : List Int) : Option Bool := if a.length = b.length ∧ a.length ≤ 1000 then some (befo a b) else none
theorem KB57 : FnOk Try.prog 57 (F57 B57) := ok57 B57 fun a b r h => ⟨1001, by
  simp only [B57] at h
  split at h
  · rename_i hh
    obtain ⟨he, hl⟩ := hh
    rw [← h, m57]
    exact rangeIx a 0 (fun n (_ : Unit) t => l57a 1001 a b n t) (fun _ _ _ => True) (fun t xs _ => some (befo xs (b.drop t)))
      (fun n _ t x rest ht hx _ ih => by
        have hb : b.drop t = b.getD t 0 :: b.drop (t + 1) := by
          rw [List.drop_eq_getElem_cons (by omega), List.getD_eq_getElem?_getD, List.getElem?_eq_getElem (by omega)]; rfl
        simp only [l57a, ixA ht, ixB ht, ixB (he ▸ ht : t < b.length), cond_true, chk_true, Int.toNat_natCast, ixW ht (by omega), hx, ih () trivial]
        rw [hb, befo]
        cases x != b.getD t 0 <;> rfl)
      (fun n _ _ => by simp only [l57a, ixE, cond_false]; rw [befo]; intro _ _ _ _ h _; cases h) 1001 () (by omega) trivial
  · cases h⟩

/-- The better list. -/
def pick (out a : List Int) : List Int := if out.length < a.length then a else if a.length = out.length then cond (befo a out) a out else out

theorem befo_first {p q : Nat → Bool} {e : Nat} (hp : p e = true) (hq : q e = false) : ∀ {m t : Nat}, t ≤ e → e < t + m → (∀ i, i < e → p i = q i) → (lstF p m t).length = (lstF q m t).length → befo (lstF p m t) (lstF q m t) = true ∧ befo (lstF q m t) (lstF p m t) = false
  | 0, t, h1, h2, _, _ => by omega
  | m + 1, t, h1, h2, hlow, hlen => by
    by_cases ht : t = e
    · subst ht
      rw [lstF, hp, cond_true, lstF, hq, cond_false] at hlen ⊢
      cases hc : lstF q m (t + 1) with
      | nil => rw [hc] at hlen; simp at hlen
      | cons y r =>
        have hy := (lstF_mem.1 (show y ∈ lstF q m (t + 1) by rw [hc]; simp)).1
        have h1 : ((t : Int) != y) = true := by simp; omega
        have h2 : (y != (t : Int)) = true := by simp; omega
        rw [befo, h1, cond_true, befo, h2, cond_true]
        exact ⟨decide_eq_true (by omega), decide_eq_false (by omega)⟩
    · have hpq := hlow t (by omega)
      rw [lstF, lstF, ← hpq] at hlen ⊢
      cases hpt : p t with
      | true =>
        rw [hpt, cond_true, cond_true, List.length_cons, List.length_cons] at hlen
        rw [cond_true, cond_true, befo, befo]
        have : ((t : Int) != (t : Int)) = false := by simp
        rw [this, cond_false, cond_false]
        exact befo_first hp hq (by omega) (by omega) hlow (by omega)
      | false =>
        rw [hpt, cond_false, cond_false] at hlen
        rw [cond_false, cond_false]
        exact befo_first hp hq (by omega) (by omega) hlow hlen

/-- One list that is better than all others is found. -/
theorem pick_best {g : List Int} : ∀ (L : List (List Int)) (out : List Int), (∀ a ∈ L, a ≠ g → a.length < g.length ∨ (a.length = g.length ∧ befo g a = true ∧ befo a g = false)) → (out = g ∨ ((out.length < g.length ∨ (out.length = g.length ∧ befo g out = true)) ∧ g ∈ L)) → L.foldl pick out = g
  | [], out, _, h => by rcases h with h | ⟨_, h⟩
                        · exact h
                        · cases h
  | a :: L, out, hL, h => by
    simp only [List.foldl_cons]
    have hL' : ∀ a ∈ L, a ≠ g → a.length < g.length ∨ (a.length = g.length ∧ befo g a = true ∧ befo a g = false) := fun a ha => hL a (List.mem_cons_of_mem _ ha)
    rcases h with rfl | ⟨h1, h2⟩
    · refine pick_best L _ hL' (.inl ?_)
      by_cases e : a = out
      · subst e; unfold pick; rw [if_neg (by omega), if_pos rfl]; cases befo a a <;> rfl
      · unfold pick
        rcases hL a (by simp) e with q | ⟨q1, q2, q3⟩
        · rw [if_neg (by omega), if_neg (by omega)]
        · rw [if_neg (by omega), if_pos q1, q3]; rfl
    · by_cases e : a = g
      · subst e
        refine pick_best L _ hL' (.inl ?_)
        unfold pick
        rcases h1 with q | ⟨q1, q2⟩
        · rw [if_pos q]
        · rw [if_neg (by omega), if_pos q1.symm, q2]; rfl
      · have hg : g ∈ L := by
          rcases List.mem_cons.1 h2 with h | h
          · exact absurd h.symm e
          · exact h
        refine pick_best L _ hL' (.inr ⟨?_, hg⟩)
        have ha : a.length < g.length ∨ (a.length = g.length ∧ befo g a = true) := (hL a (by simp) e).imp id fun h => ⟨h.1, h.2.1⟩
        unfold pick
        split
        · exact ha
        · split
          · cases befo a out
            · exact h1
            · exact ha
          · exact h1

theorem lstF_congr {p q : Nat → Bool} : ∀ {m t : Nat}, (∀ i, t ≤ i → i < t + m → p i = q i) → lstF p m t = lstF q m t
  | 0, t, _ => rfl
  | m + 1, t, h => by rw [lstF, lstF, h t (by omega) (by omega), lstF_congr fun i a b => h i (by omega) (by omega)]

theorem cnt_shift (p : Nat → Bool) : ∀ n, cnt p (n + 1) = (p 0).toNat + cnt (fun i => p (i + 1)) n
  | 0 => by simp [cnt]
  | n + 1 => by rw [cnt, cnt_shift p n]; simp only [cnt]; omega
theorem lstF_cnt (p : Nat → Bool) : ∀ m t, (lstF p m t).length = cnt (fun i => p (t + i)) m
  | 0, t => rfl
  | m + 1, t => by
    rw [lstF, cnt_shift]
    have ih := lstF_cnt p m (t + 1)
    have e : cnt (fun i => p (t + (i + 1))) m = cnt (fun i => p (t + 1 + i)) m := cnt_congr fun i _ => by rw [show t + (i + 1) = t + 1 + i by omega]
    rw [e, ← ih, Nat.add_zero]
    cases p t <;> simp <;> omega

/-- Two sorted lists with the same members. -/
theorem sorted_eq : ∀ {a b : List Int}, a.Pairwise (· < ·) → b.Pairwise (· < ·) → (∀ i, i ∈ a ↔ i ∈ b) → a = b
  | [], [], _, _, _ => rfl
  | [], y :: b, _, _, h => by have := (h y).2 (by simp); cases this
  | x :: a, [], _, _, h => by have := (h x).1 (by simp); cases this
  | x :: a, y :: b, ha, hb, h => by
    obtain ⟨a1, a2⟩ := List.pairwise_cons.1 ha
    obtain ⟨b1, b2⟩ := List.pairwise_cons.1 hb
    have hxy : x = y := by
      have h1 : x ∈ y :: b := (h x).1 (by simp)
      have h2 : y ∈ x :: a := (h y).2 (by simp)
      rcases List.mem_cons.1 h1 with e | h1
      · exact e
      · rcases List.mem_cons.1 h2 with e | h2
        · exact e.symm
        · have := a1 y h2; have := b1 x h1; omega
    subst hxy
    congr 1
    refine sorted_eq a2 b2 fun i => ?_
    constructor
    · intro hi
      rcases List.mem_cons.1 ((h i).1 (List.mem_cons_of_mem _ hi)) with e | hi'
      · have := a1 i hi; omega
      · exact hi'
    · intro hi
      rcases List.mem_cons.1 ((h i).2 (List.mem_cons_of_mem _ hi)) with e | hi'
      · have := b1 i hi; omega
      · exact hi'

theorem greedy_gr {l : List Od} (h : Ok6 l) : Ix l.length (greedy l []) ∧ Gr (dyl l) (fnl l) l.length (fun _ => false) (mem (greedy l [])) := by
  have := greedy_ix (l := l) (s := []) (fun o ho => (h.all o ho).1.1) ⟨(fun _ h => by cases h), List.Pairwise.nil⟩ (Pos.empty.sub fun _ _ h => by cases h)
  exact this
theorem greedy_best {l : List Od} (h : Ok6 l) : BestS l (mem (greedy l [])) := by
  obtain ⟨_, hg⟩ := greedy_gr h
  obtain ⟨o1, T, o2, o3⟩ := leastO_ok h
  refine ⟨hg.pos, ?_⟩
  have h1 := o1 _ hg.pos
  have h2 := hg.best (M := 10000) (fun i hi => h.fn hi) o2 (fun i _ h => by cases h)
  omega

theorem strict_of {s : List Int} (h1 : s.Pairwise (fun a b => decide (a ≤ b) = true)) (h2 : s.Nodup) : s.Pairwise (· < ·) :=
  (h1.and h2).imp fun {a b} h => by have := of_decide_eq_true h.1; have := h.2; omega

theorem lst_set {n : Nat} (hn : n ≤ 12) {s : List Int} (hs : Ix n s) (h1 : s.Pairwise (fun a b => decide (a ≤ b) = true)) {p : Nat → Bool} (hp : ∀ i, i < n → p i = mem s i) (hp2 : ∀ i, n ≤ i → p i = false) : lstF p 12 0 = s := by
  refine sorted_eq (lstF_sorted _ _ _) (strict_of h1 hs.nd) fun i => ?_
  rw [lstF_mem]
  constructor
  · rintro ⟨a, b, c⟩
    have hi : i.toNat < n := Nat.lt_of_not_le fun q => by rw [hp2 _ q] at c; cases c
    rw [hp _ hi] at c
    have : ((i.toNat : Nat) : Int) = i := by omega
    unfold mem at c
    rw [this] at c
    exact List.contains_iff_mem.1 c
  · intro hi
    have hr := hs.rng i hi
    refine ⟨by omega, by omega, ?_⟩
    rw [hp _ (by omega)]
    have : ((i.toNat : Nat) : Int) = i := by omega
    unfold mem
    rw [this]
    exact List.contains_iff_mem.2 hi

theorem tb_big {k n i : Nat} (hk : k < 2 ^ n) (hi : n ≤ i) : tb k i = false := Nat.testBit_lt_two_pow (Nat.lt_of_lt_of_le hk (Nat.pow_le_pow_right (by decide) hi))

/-- The greedy set is the list that the reference picks. -/
theorem pick_greedy {l : List Od} (h : Ok6 l) : ((bests l).map lstM).foldl pick [] = greedy l [] := by
  have hlen := h.len
  obtain ⟨hix, hg⟩ := greedy_gr h
  have hb := greedy_best h
  have key : ∀ k, k ∈ bests l → lstM k ≠ greedy l [] → (lstM k).length < (greedy l []).length ∨ ((lstM k).length = (greedy l []).length ∧ befo (greedy l []) (lstM k) = true ∧ befo (lstM k) (greedy l []) = false) := fun k hk hne => by
    obtain ⟨k1, k2⟩ := (bests_mem h).1 hk
    have eG : lstF (mem (greedy l [])) 12 0 = greedy l [] := lst_set hlen hix (greedy_sorted l []) (fun _ _ => rfl) fun i hi => by
      cases q : mem (greedy l []) i with
      | false => rfl
      | true => have := hix.rng _ (List.contains_iff_mem.1 q); omega
    have hsz := hg.size (fun i hi => (h.fn hi).1) k2.1 (fun i _ h => by cases h)
    have c1 : (lstM k).length = cnt (tb k) l.length := by
      have e := lstF_cnt (tb k) 12 0
      have : cnt (fun i => tb k (0 + i)) 12 = cnt (tb k) l.length := by
        have e2 : cnt (fun i => tb k (0 + i)) 12 = cnt (tb k) 12 := cnt_congr fun i _ => by rw [Nat.zero_add]
        rw [e2]
        have : ∀ m, l.length ≤ m → cnt (tb k) m = cnt (tb k) l.length := by
          intro m
          induction m with
          | zero => intro hm; rw [show l.length = 0 by omega]
          | succ m ih =>
            intro hm
            by_cases q : l.length = m + 1
            · rw [q]
            · rw [cnt, tb_big k1 (by omega), ih (by omega)]; rfl
        exact this 12 hlen
      rw [lstM, e, this]
    have c2 : (greedy l []).length = cnt (mem (greedy l [])) l.length := cnt_len hix
    by_cases q : (lstM k).length < (greedy l []).length
    · exact .inl q
    · have hq : (lstM k).length = (greedy l []).length := by omega
      refine .inr ⟨hq, ?_⟩
      -- the first difference
      have hex : ∃ e, e < 12 ∧ tb k e ≠ mem (greedy l []) e := Classical.byContradiction fun hn => hne (by
        rw [← eG, lstM]
        exact lstF_congr fun i _ hi => Classical.byContradiction fun q => hn ⟨i, by omega, q⟩)
      obtain ⟨e, ⟨e1, e2⟩, e3⟩ : ∃ e, (e < 12 ∧ tb k e ≠ mem (greedy l []) e) ∧ ∀ i, i < e → ¬ (i < 12 ∧ tb k i ≠ mem (greedy l []) i) := by
        obtain ⟨d, hd⟩ := hex
        induction d using Nat.strongRecOn with
        | _ d ih =>
          by_cases h : ∃ d', d' < d ∧ d' < 12 ∧ tb k d' ≠ mem (greedy l []) d'
          · obtain ⟨d', h1, h2⟩ := h; exact ih d' h1 h2
          · exact ⟨d, hd, fun d' h1 h2 => h ⟨d', h1, h2⟩⟩
      have hlow : ∀ i, i < e → tb k i = mem (greedy l []) i := fun i hi => Classical.byContradiction fun q => e3 i hi ⟨by omega, q⟩
      have hws : ws (fnl l) (tb k) l.length = ws (fnl l) (mem (greedy l [])) l.length := by rw [k2.2, hb.2]
      have hen : e < l.length := Nat.lt_of_not_le fun q => e2 (by
        rw [tb_big k1 q]
        cases q2 : mem (greedy l []) e with
        | false => rfl
        | true => have := hix.rng _ (List.contains_iff_mem.1 q2); omega)
      cases hk1 : tb k e with
      | true =>
        have hk2 : mem (greedy l []) e = false := by cases q2 : mem (greedy l []) e with
          | false => rfl
          | true => exact absurd (by rw [hk1, q2]) e2
        exact (hg.first (M := 10000) (fun i hi => h.fn hi) k2.1 hws hen hlow hk1 hk2).elim
      | false =>
        have hk2 : mem (greedy l []) e = true := by cases q2 : mem (greedy l []) e with
          | true => rfl
          | false => exact absurd (by rw [hk1, q2]) e2
        have := befo_first hk2 hk1 (m := 12) (t := 0) (by omega) (by omega) (fun i hi => (hlow i hi).symm) (by rw [eG]; exact hq.symm)
        rw [eG] at this
        exact this
  refine pick_best _ _ (fun a ha hne => ?_) ?_
  · obtain ⟨k, hk, rfl⟩ := List.mem_map.1 ha
    exact key k hk hne
  · by_cases q : greedy l [] = []
    · exact .inl q.symm
    · refine .inr ⟨.inl (by have := List.length_pos_iff.2 q; simpa using this), ?_⟩
      have hm := bests_mask h hb
      refine List.mem_map.2 ⟨_, hm, ?_⟩
      refine lst_set hlen hix (greedy_sorted l []) (fun i hi => by rw [maskT_bit, decide_eq_true hi, Bool.true_and]) fun i hi => ?_
      exact tb_big (maskT_lt _ _) hi

theorem bests_len (l : List Od) : (bests l).length ≤ 2 ^ l.length := by
  unfold bests
  have := List.length_filter_le (fun k => psm l k && decide (fim l k = leastO l)) (List.range (2 ^ l.length))
  rw [List.length_range] at this; exact this

theorem KB21 : FnOk Try.prog 21 (F21 B20) := ok21 B23 B54 B56 B57 KB24 KB54 KB56 KB57 B20 fun l r h => ⟨5000, by
  simp only [B20] at h
  split at h
  · rename_i hl
    rw [← h, m21, B23, if_pos hl, Option.bind_some, stO]
    by_cases hc : ckO l = 0
    · have h6 := okO_of hc
      have hp := pow_12 h6.len
      have hbl := bests_len l
      rw [if_pos hc, bne_F hc, cond_false, B54_ok h6, Option.bind_some, ← pick_greedy h6]
      have main := rangeInv ((bests l).map Int.ofNat) 0 (fun n (o : List Int) t => l21a B23 B54 B56 B57 5000 (leastO l, (bests l).map Int.ofNat) n o t) (fun xs o => o.length ≤ 12 ∧ ∃ ys : List Nat, xs = ys.map Int.ofNat ∧ ∀ k ∈ ys, k < 4096) (fun xs o => some (((xs.map fun i => lstM i.toNat).foldl pick o, 0)))
        (fun n o t x rest ht hx hI ih => by
          obtain ⟨ho, ys, e, hy⟩ := hI
          cases ys with
          | nil => cases e
          | cons k ys =>
            simp only [List.map_cons, List.cons.injEq] at e
            obtain ⟨rfl, rfl⟩ := e
            have hk := hy k (by simp)
            have hy' : ∀ k ∈ ys, k < 4096 := fun k hk => hy k (List.mem_cons_of_mem _ hk)
            have ht' : t < (bests l).length := by simpa using ht
            have hkl : (lstM k).length ≤ 12 := lstF_len _ _ _
            have b1 : B56 (Int.ofNat k) = some (lstM k) := if_pos ⟨Int.natCast_nonneg k, by show (k : Int) < _; omega⟩
            simp only [l21a, ixA ht, ixB ht, cond_true, chk_true, Int.toNat_natCast, ixW ht (by simp; omega), hx, b1, Option.bind_some]
            rw [ih (lstM k) ⟨hkl, ys, rfl, hy'⟩, ih o ⟨ho, ys, rfl, hy'⟩]
            show _ = some (((ys.map Int.ofNat).map fun i => lstM i.toNat).foldl pick (pick o (lstM k)), (0 : Int))
            unfold pick
            by_cases q1 : o.length < (lstM k).length
            · rw [if_pos q1, decide_eq_true (show ((lstM k).length : Int) > (o.length : Int) by omega), cond_true]
            · rw [if_neg q1, decide_eq_false (show ¬ ((lstM k).length : Int) > (o.length : Int) by omega), cond_false]
              by_cases q2 : (lstM k).length = o.length
              · have hbq : (((lstM k).length : Int) == (o.length : Int)) = true := by simp [q2]
                have b2 : B57 (lstM k) o = some (befo (lstM k) o) := if_pos ⟨q2, by omega⟩
                rw [if_pos q2, hbq, cond_true, b2, Option.bind_some]
                cases befo (lstM k) o <;> rfl
              · have hbq : (((lstM k).length : Int) == (o.length : Int)) = false := by simp; omega
                rw [if_neg q2, hbq, cond_false])
        (fun n o hI => by simp only [l21a, ixE, cond_false]; rfl) 5000 [] (by simp; omega) ⟨by simp, bests l, rfl, fun k hk => by have := ((bests_mem h6).1 hk).1; omega⟩
      rw [main, List.map_map]; rfl
    · rw [if_neg hc, bne_T hc, cond_true]
  · cases h⟩

end Go.Proofs.Ytbblnbolabpfmaa
