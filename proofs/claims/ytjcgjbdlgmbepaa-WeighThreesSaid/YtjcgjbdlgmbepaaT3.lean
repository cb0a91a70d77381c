/-
  The reference's layings, loads and reach.
-/
import Derived.Test.YtjcgjbdlgmbepaaT2
import Derived.Test.YtjcgjbdlgmbepaaS3
namespace Go.Proofs.Ytjcgjbdlgmbepaa
open Go.RowKit
set_option linter.unusedVariables false

def lays : Nat → List (List Int)
  | 0 => [[]]
  | k + 1 => (lays k).flatMap fun l => [l ++ [1], l ++ [0], l ++ [-1]]
theorem lays_length : ∀ k, (lays k).length = 3 ^ k
  | 0 => rfl
  | k + 1 => by
    rw [lays, List.length_flatMap, Nat.pow_succ, ← lays_length k]
    generalize lays k = l
    induction l with
    | nil => rfl
    | cons x xs ih => rw [List.map_cons, List.sum_cons, ih, List.length_cons]; simp; omega
theorem mem_lays : ∀ {k : Nat} {l : List Int}, l ∈ lays k ↔ l.length = k ∧ ∀ a ∈ l, IsWay a
  | 0, l => by
    simp only [lays, List.mem_singleton]
    constructor
    · rintro rfl; exact ⟨rfl, by simp⟩
    · intro h; exact List.length_eq_zero_iff.1 h.1
  | k + 1, l => by
    simp only [lays, List.mem_flatMap, List.mem_cons, List.not_mem_nil, or_false]
    have up : ∀ {m : List Int} {v : Int}, m ∈ lays k → IsWay v → (m ++ [v]).length = k + 1 ∧ ∀ a ∈ m ++ [v], IsWay a := fun {m v} hm hv => by
      obtain ⟨h1, h2⟩ := mem_lays.1 hm
      refine ⟨by simp [h1], fun a ha => ?_⟩
      rcases List.mem_append.1 ha with ha | ha
      · exact h2 a ha
      · simp at ha; subst ha; exact hv
    constructor
    · rintro ⟨m, hm, rfl | rfl | rfl⟩
      · exact up hm (.inl rfl)
      · exact up hm (.inr (.inl rfl))
      · exact up hm (.inr (.inr rfl))
    · intro ⟨h1, h2⟩
      have hne : l ≠ [] := by intro e; rw [e] at h1; cases h1
      have e := List.dropLast_concat_getLast hne
      refine ⟨l.dropLast, mem_lays.2 ⟨by simp [h1], fun a ha => h2 a (List.dropLast_subset l ha)⟩, ?_⟩
      have hw := h2 (l.getLast hne) (List.getLast_mem hne)
      rcases hw with h | h | h <;> rw [h] at e
      · exact .inl e.symm
      · exact .inr (.inl e.symm)
      · exact .inr (.inr e.symm)
theorem R_lays {ws : List Int} {x : Int} : R ws x ↔ ∃ l ∈ lays ws.length, bal ws l = x := by
  constructor
  · rintro ⟨l, h1, h2, h3⟩; exact ⟨l, mem_lays.2 ⟨h1, h2⟩, h3⟩
  · rintro ⟨l, h, h3⟩; exact ⟨l, (mem_lays.1 h).1, (mem_lays.1 h).2, h3⟩

/-! ### layings -/
def B62 (n : Int) : Option (List (List Int)) := if 0 ≤ n ∧ n ≤ 7 then some (lays n.toNat) else none
theorem KB62 : FnOk Try.prog 62 (F62 B62) := ok62 B62 fun n r h => ⟨20000, by
  simp only [B62] at h
  split at h
  · rename_i hn
    rw [← h, m62]
    exact countUp 0 n hn.1 (fun m (o : List (List Int)) t => l62a 20000 n m o t) (fun t o => o = lays t.toNat) (fun t o => some (lays n.toNat))
      (fun m o t h0 h1 hI ih => by
        subst hI
        have hlen : (lays t.toNat).length ≤ 2187 := by rw [lays_length]; exact Nat.le_trans (Nat.pow_le_pow_right (by omega) (show t.toNat ≤ 7 by omega)) (by decide)
        simp only [l62a, decide_eq_true h1, cond_true]
        have inner := rangeInv (lays t.toNat) [] (fun q (nx : List (List Int)) k => l62b 20000 n (lays t.toNat) t (fun y0 y1 => l62a 20000 n m y0 y1) q k nx) (fun xs nx => nx.length + 3 * xs.length ≤ 6561 ∧ ∀ x ∈ xs, x ∈ lays t.toNat)
          (fun xs nx => l62a 20000 n m (nx ++ xs.flatMap fun l => [l ++ [1], l ++ [0], l ++ [-1]]) (w64 (t + 1)))
          (fun q nx k x rest hk hx hI ih' => by
            obtain ⟨i1, i2⟩ := hI
            simp only [List.length_cons] at i1
            have hxl : x.length ≤ 7 := by have := (mem_lays.1 (i2 x (List.mem_cons_self ..))).1; omega
            have s1 : small (0 + x.length) 8 = true := small_of (by omega) (by omega)
            have s2 : small (([] ++ x : List Int).length + 1) 8 = true := small_of (by simp; omega) (by omega)
            have s3 : ∀ z : List (List Int), z.length ≤ 7000 → small (z.length + 1) 24 = true := fun z hz => small_of (by omega) (by omega)
            have d1 : decide ((1 : Int) ≥ -1) = true := rfl
            have d0 : decide ((0 : Int) ≥ -1) = true := rfl
            have dm : decide ((-1 : Int) ≥ -1) = true := rfl
            have d2 : decide ((-2 : Int) ≥ -1) = false := rfl
            have w1 : w64 (1 - 1) = 0 := rfl
            have w0 : w64 (0 - 1) = -1 := rfl
            have wm : w64 (-1 - 1) = -2 := rfl
            have c : ∀ f, l62c 20000 n (lays t.toNat) t (k : Int) (fun y0 y1 => l62b 20000 n (lays t.toNat) t (fun y0 y1 => l62a 20000 n m y0 y1) q y0 y1) (f + 1 + 1 + 1 + 1) 1 nx =
                l62b 20000 n (lays t.toNat) t (fun y0 y1 => l62a 20000 n m y0 y1) q ((k + 1 : Nat) : Int) (nx ++ [x ++ [1], x ++ [0], x ++ [-1]]) := by
              intro f
              simp only [l62c, d1, d0, dm, d2, w1, w0, wm, cond_true, cond_false, ixB hk, chk_true, Int.toNat_natCast, hx, s1, s2, s3 nx (by omega), s3 (nx ++ [[] ++ x ++ [1]]) (by simp; omega), s3 (nx ++ [[] ++ x ++ [1]] ++ [[] ++ x ++ [0]]) (by simp; omega), ixW hk (by omega)]
              simp
            simp only [l62b, ixA hk, cond_true]
            refine Eq.trans (c 19996) ?_
            rw [ih' _ ⟨by simp; omega, fun y hy => i2 y (List.mem_cons_of_mem _ hy)⟩, List.flatMap_cons, ← List.append_assoc])
          (fun q nx _ => by simp only [l62b, ixE, cond_false, List.flatMap_nil, List.append_nil]) 20000 [] (by omega) ⟨by simp; omega, fun x hx => hx⟩
        refine Eq.trans inner ?_
        rw [w64_small (x := t + 1) (by omega), List.nil_append]
        refine ih _ ?_
        rw [show (t + 1).toNat = t.toNat + 1 by omega]; rfl)
      (fun m o hI => by
        subst hI
        simp only [l62a, decide_eq_false (show ¬ n < n by omega), cond_false]) 20000 [[]] (by omega) rfl
  · cases h⟩

/-! ### balanced -/
def okLay (l : List Int) : Bool := l.all fun a => decide (-1 ≤ a ∧ a ≤ 1)
theorem okLay_iff {l : List Int} : okLay l = true ↔ ∀ a ∈ l, IsWay a := by
  simp only [okLay, List.all_eq_true, decide_eq_true_eq]
  exact ⟨fun h a ha => by have := h a ha; unfold IsWay; omega, fun h a ha => by have := h a ha; unfold IsWay at this; omega⟩
def B63 (ws l : List Int) : Option (Int × Int) := if wE ws = 0 ∧ l.length = ws.length ∧ okLay l = true then some (bal ws l, used l) else none
theorem KB63 : FnOk Try.prog 63 (F63 B63) := ok63 B63 fun ws l r h => ⟨20000, by
  simp only [B63] at h
  split at h
  · rename_i hk
    obtain ⟨hw, hl, ho⟩ := hk
    obtain ⟨h7, hp, _⟩ := wE_zero hw
    have ho := okLay_iff.1 ho
    rw [← h, m63]
    have main := rangeIx ws 0 (fun n (s : Int × Int) t => l63a 20000 ws l n s.1 s.2 t) (fun t xs s => (-14000 ≤ s.1 - 2000 * (xs.length : Int) ∧ s.1 + 2000 * (xs.length : Int) ≤ 14000) ∧ 0 ≤ s.2 ∧ s.2 + xs.length ≤ 7)
      (fun t xs s => some (s.1 + bal xs (l.drop t), s.2 + used (l.drop t)))
      (fun n s t x rest ht hx hI ih => by
        obtain ⟨⟨i1, i2⟩, i3, i4⟩ := hI
        simp only [List.length_cons] at i1 i2 i4
        have htl : t < l.length := by omega
        have hxp := hp x (getD_mem ht hx)
        have e : l.drop t = l.getD t 0 :: l.drop (t + 1) := by
          rw [List.drop_eq_getElem_cons htl, List.getD_eq_getElem?_getD, List.getElem?_eq_getElem htl]; rfl
        have ha := ho (l.getD t 0) (getD_mem htl rfl)
        generalize l.getD t 0 = a at e ha
        have hb : -2000 ≤ x * a ∧ x * a ≤ 2000 := by rcases ha with rfl | rfl | rfl <;> omega
        have e2 : l.getD t 0 = a := by
          have := congrArg List.head? e
          rw [List.head?_drop] at this
          rw [List.getD_eq_getElem?_getD, this]; rfl
        simp only [l63a, ixA ht, ixB ht, ixB htl, cond_true, chk_true, Int.toNat_natCast, hx, e2, ixW ht (by omega), w64_small (show -4611686018427387904 ≤ x * a ∧ x * a ≤ 4611686018427387904 by omega),
          w64_small (show -4611686018427387904 ≤ s.1 + x * a ∧ s.1 + x * a ≤ 4611686018427387904 by omega), w64_small (show -4611686018427387904 ≤ s.2 + 1 ∧ s.2 + 1 ≤ 4611686018427387904 by omega)]
        rw [e]
        simp only [bal, used]
        cases hq : a != 0 with
        | true => rw [cond_true, cond_true, ih (s.1 + x * a, s.2 + 1) ⟨⟨by show -14000 ≤ s.1 + x * a - _; omega, by show s.1 + x * a + _ ≤ _; omega⟩, by show 0 ≤ s.2 + 1; omega, by show s.2 + 1 + _ ≤ _; omega⟩]; simp only [Int.add_assoc]
        | false => rw [cond_false, cond_false, ih (s.1 + x * a, s.2) ⟨⟨by show -14000 ≤ s.1 + x * a - _; omega, by show s.1 + x * a + _ ≤ _; omega⟩, i3, by show s.2 + _ ≤ _; omega⟩]; simp only [Int.add_assoc, Int.zero_add])
      (fun n s hI => by
        simp only [l63a, ixE, cond_false]
        rw [← hl, List.drop_length]
        simp [bal, used]) 20000 (0, 0) (by omega) ⟨by constructor <;> simp <;> omega, by simp, by simp; omega⟩
    simpa using main
  · cases h⟩
theorem B63_lays {ws : List Int} (hw : wE ws = 0) {l : List Int} (h : l ∈ lays ws.length) : B63 ws l = some (bal ws l, used l) :=
  if_pos ⟨hw, (mem_lays.1 h).1, okLay_iff.2 (mem_lays.1 h).2⟩

/-! ### loads -/
def canL (ws : List Int) : List Bool := (List.range (ws.sum.toNat + 1)).map fun (n : Nat) => (lays ws.length).any fun l => bal ws l == (n : Int)
def B56 (ws : List Int) : Option (List Bool) := if wE ws = 0 then some (canL ws) else none
theorem map_set {β : Type} {m k : Nat} (f : Nat → β) (v : β) (hk : k < m) : ((List.range m).map f).set k v = (List.range m).map fun n => if n = k then v else f n := by
  refine List.ext_getElem (by simp) fun i h1 h2 => ?_
  simp only [List.getElem_set, List.getElem_map, List.getElem_range]
  by_cases e : k = i
  · subst e; simp
  · rw [if_neg e, if_neg (fun h => e h.symm)]
theorem KB56 : FnOk Try.prog 56 (F56 B56) := ok56 B62 B63 KB62 KB63 B56 fun ws r h => ⟨20000, by
  simp only [B56] at h
  split at h
  · rename_i hw
    obtain ⟨h7, hp, _⟩ := wE_zero hw
    have hsum := hp.sum
    rw [← h, m56]
    have hll : (lays ws.length).length ≤ 2187 := by rw [lays_length]; exact Nat.le_trans (Nat.pow_le_pow_right (by omega) h7.2) (by decide)
    have hpl : ∀ (t : Nat) (xs : List Int), True := fun _ _ => trivial
    have main := rangeIx ws 0 (fun n (s : Int) t => l56a B62 B63 20000 ws n s t) (fun t xs s => s + xs.sum = ws.sum ∧ 0 ≤ s ∧ Pos xs) (fun t xs s => some (canL ws))
      (fun n s t x rest ht hx hI ih => by
        obtain ⟨i1, i2, i3⟩ := hI
        have hx1 := i3 x (List.mem_cons_self ..)
        have hr : Pos rest := fun w hw => i3 w (List.mem_cons_of_mem _ hw)
        have hrs := hr.sum
        rw [List.sum_cons] at i1
        simp only [l56a, ixA ht, ixB ht, cond_true, chk_true, Int.toNat_natCast, hx, ixW ht (by omega), w64_small (show -4611686018427387904 ≤ s + x ∧ s + x ≤ 4611686018427387904 by omega)]
        exact ih (s + x) ⟨by omega, by omega, hr⟩)
      (fun n s hI => by
        obtain ⟨i1, i2, _⟩ := hI
        have es : s = ws.sum := by simpa using i1
        subst es
        simp only [l56a, ixE, cond_false]
        have e1 : w64 (ws.sum + 1) = ((ws.sum.toNat + 1 : Nat) : Int) := by rw [w64_small (by omega)]; omega
        rw [e1, mkOk_of (by omega) (by omega), chk_true, B62, if_pos (by omega), Option.bind_some, Int.toNat_natCast, Int.toNat_natCast]
        exact rangeIx (lays ws.length) [] (fun n (o : List Bool) t => l56b B62 B63 20000 ws (lays ws.length) n t o) (fun t xs o => (∀ l ∈ xs, l ∈ lays ws.length) ∧ o = (List.range (ws.sum.toNat + 1)).map fun (n : Nat) => ((lays ws.length).take t).any fun l => bal ws l == (n : Int)) (fun _ _ _ => some (canL ws))
          (fun n o t x rest ht hx hI ih => by
            obtain ⟨i1, i2⟩ := hI
            have hxm := i1 x (List.mem_cons_self ..)
            have hr := R_le hp.nonneg (R_lays.2 ⟨x, hxm, rfl⟩)
            have htake : (lays ws.length).take (t + 1) = (lays ws.length).take t ++ [x] := by
              rw [List.take_add_one, List.getElem?_eq_getElem ht]
              rw [List.getD_eq_getElem?_getD, List.getElem?_eq_getElem ht] at hx
              rw [← hx]; rfl
            simp only [l56b, ixA ht, ixB ht, cond_true, chk_true, Int.toNat_natCast, hx, B63_lays hw hxm, Option.bind_some, ixW ht (by omega)]
            have i1' : ∀ l ∈ rest, l ∈ lays ws.length := fun l hl => i1 l (List.mem_cons_of_mem _ hl)
            by_cases c : bal ws x ≥ 0
            · have hb : decide (0 ≤ bal ws x ∧ bal ws x < (o.length : Int)) = true := decide_eq_true (by rw [i2]; simp; omega)
              rw [decide_eq_true c, cond_true, hb, chk_true]
              refine ih _ ⟨i1', ?_⟩
              rw [i2, map_set _ _ (by omega), htake]
              refine List.map_congr_left fun k hk => ?_
              rw [List.any_append]
              by_cases e : k = (bal ws x).toNat
              · rw [if_pos e]
                have : (bal ws x == (k : Int)) = true := by simp; omega
                simp [this]
              · rw [if_neg e]
                have : (bal ws x == (k : Int)) = false := by rw [beq_eq_false_iff_ne]; omega
                simp [this]
            · rw [decide_eq_false c, cond_false]
              refine ih _ ⟨i1', ?_⟩
              rw [i2, htake]
              refine List.map_congr_left fun k hk => ?_
              rw [List.any_append]
              have : (bal ws x == (k : Int)) = false := by rw [beq_eq_false_iff_ne]; omega
              simp [this])
          (fun n o hI => by
            simp only [l56b, ixE, cond_false]
            rw [hI.2, List.take_length]; rfl) 20000 (List.replicate (ws.sum.toNat + 1) false) (by omega) ⟨fun l hl => hl, by
              refine List.ext_getElem (by simp) fun i h1 h2 => ?_
              simp⟩) 20000 0 (by omega) ⟨by simp, by omega, hp⟩
    exact main
  · cases h⟩
theorem canL_len (ws : List Int) : (canL ws).length = ws.sum.toNat + 1 := by simp [canL]
theorem canL_get {ws : List Int} {i : Nat} : (canL ws)[i]? = some true ↔ i ≤ ws.sum.toNat ∧ R ws (i : Int) := by
  unfold canL
  rw [List.getElem?_map]
  by_cases h : i < ws.sum.toNat + 1
  · rw [List.getElem?_range h, Option.map_some, Option.some.injEq, List.any_eq_true, R_lays]
    constructor
    · rintro ⟨l, h1, h2⟩; exact ⟨by omega, l, h1, by simpa using h2⟩
    · rintro ⟨_, l, h1, h2⟩; exact ⟨l, h1, by simpa using h2⟩
  · rw [List.getElem?_eq_none (by simpa using h)]
    simp; intro h'; omega

/-! ### Loads -/
def colL : Int → List Bool → List Int
  | _, [] => []
  | t, b :: bs => cond b (t :: colL (t + 1) bs) (colL (t + 1) bs)
theorem mem_colL : ∀ {bs : List Bool} {t x : Int}, x ∈ colL t bs ↔ ∃ i : Nat, bs[i]? = some true ∧ x = t + (i : Int)
  | [], t, x => by simp [colL]
  | b :: bs, t, x => by
    have split : (∃ i : Nat, (b :: bs)[i]? = some true ∧ x = t + (i : Int)) ↔ (b = true ∧ x = t) ∨ ∃ i : Nat, bs[i]? = some true ∧ x = t + 1 + (i : Int) := by
      constructor
      · rintro ⟨i, h1, h2⟩
        cases i with
        | zero => left; exact ⟨by simpa using h1, by simpa using h2⟩
        | succ i => right; exact ⟨i, by simpa using h1, by omega⟩
      · rintro (⟨h1, h2⟩ | ⟨i, h1, h2⟩)
        · exact ⟨0, by simpa using h1, by simpa using h2⟩
        · exact ⟨i + 1, by simpa using h1, by omega⟩
    rw [split, colL]
    cases b with
    | true => rw [cond_true, List.mem_cons, mem_colL]; simp
    | false => rw [cond_false, mem_colL]; simp
theorem colL_asc : ∀ (bs : List Bool) (t : Int), (colL t bs).Pairwise (· < ·)
  | [], _ => by simp [colL]
  | b :: bs, t => by
    rw [colL]
    cases b with
    | true => exact List.pairwise_cons.2 ⟨fun x hx => by obtain ⟨i, _, e⟩ := mem_colL.1 hx; omega, colL_asc bs _⟩
    | false => exact colL_asc bs _
theorem colL_len : ∀ (bs : List Bool) (t : Int), (colL t bs).length ≤ bs.length
  | [], _ => by simp [colL]
  | b :: bs, t => by
    rw [colL]
    have := colL_len bs (t + 1)
    cases b <;> simp <;> omega
theorem col_pos {ws : List Int} (hp : Pos ws) : colL 1 ((canL ws).drop 1) = posL ws := by
  refine asc_eq (colL_asc ..) ((sumS_asc ws).filter _) fun x => ?_
  rw [mem_colL, posL, List.mem_filter, mem_sumS, decide_eq_true_eq]
  constructor
  · rintro ⟨i, h, rfl⟩
    rw [List.getElem?_drop] at h
    obtain ⟨_, r⟩ := canL_get.1 h
    exact ⟨by rwa [show (1 : Int) + (i : Int) = ((1 + i : Nat) : Int) by omega], by omega⟩
  · intro ⟨r, h⟩
    have := R_le hp.nonneg r
    refine ⟨(x - 1).toNat, ?_, by omega⟩
    rw [List.getElem?_drop]
    exact canL_get.2 ⟨by omega, by rwa [show ((1 + (x - 1).toNat : Nat) : Int) = x by omega]⟩
theorem KB18 : FnOk Try.prog 18 (F18 B17) := ok18 B22 B56 KB23 KB56 B17 fun ws r h => ⟨20000, by
  rw [← h, m18, B22, Option.bind_some, B17, loadsS]
  cases e : wE ws == 0 with
  | false => simp only [bne, e, Bool.not_false, cond_true, cond_false]
  | true =>
    have h0 : wE ws = 0 := by simpa using e
    obtain ⟨h7, hp, _⟩ := wE_zero h0
    have hsum := hp.sum
    have hlen := canL_len ws
    simp only [bne, e, Bool.not_true, cond_true, cond_false, B56, if_pos h0, Option.bind_some]
    rw [← col_pos hp]
    have loop : ∀ (k t : Nat) (o : List Int) (n : Nat), t + k = (canL ws).length → k < n → o.length + k ≤ 20000 → l18a B22 B56 20000 (canL ws) n (t : Int) o = some (o ++ colL (t : Int) ((canL ws).drop t), 0) := by
      intro k
      induction k with
      | zero =>
        intro t o n h1 h2 h3
        obtain ⟨m, rfl⟩ : ∃ m, n = m + 1 := ⟨n - 1, by omega⟩
        have : t = (canL ws).length := by omega
        subst this
        simp only [l18a, ixE, cond_false, List.drop_length, colL, List.append_nil]
      | succ k ih =>
        intro t o n h1 h2 h3
        obtain ⟨m, rfl⟩ : ∃ m, n = m + 1 := ⟨n - 1, by omega⟩
        have ht : t < (canL ws).length := by omega
        have hw : w64 ((t : Int) + 1) = ((t + 1 : Nat) : Int) := w64_succ (by omega)
        have hs : small (o.length + 1) 8 = true := small_of (by omega) (by omega)
        have hd : (canL ws).drop t = (canL ws).getD t false :: (canL ws).drop (t + 1) := by
          rw [List.drop_eq_getElem_cons ht, List.getD_eq_getElem?_getD, List.getElem?_eq_getElem ht]; rfl
        simp only [l18a, ixA ht, ixB ht, cond_true, chk_true, Int.toNat_natCast, hw, hs]
        rw [hd, colL, show (t : Int) + 1 = ((t + 1 : Nat) : Int) by omega]
        cases (canL ws).getD t false with
        | true => rw [cond_true, cond_true, ih (t + 1) _ m (by omega) (by omega) (by simp; omega)]; simp
        | false => rw [cond_false, cond_false, ih (t + 1) o m (by omega) (by omega) (by omega)]
    have := loop ((canL ws).length - 1) 1 [] 20000 (by omega) (by omega) (by simp; omega)
    rw [List.nil_append] at this
    exact this⟩

/-! ### Reach -/
def rc : Int → List Bool → Int
  | n, [] => n
  | n, b :: bs => cond b (rc (n + 1) bs) n
theorem rc_rl : ∀ (bs : List Bool) (n : Int), rc n bs = rl n (colL (n + 1) bs)
  | [], n => rfl
  | b :: bs, n => by
    rw [rc, colL]
    cases b with
    | true => rw [cond_true, cond_true, rl, show (n + 1 == n + 1) = true by simp, cond_true]; exact rc_rl bs (n + 1)
    | false =>
      rw [cond_false, cond_false]
      cases hc : colL (n + 1 + 1) bs with
      | nil => rfl
      | cons x xs =>
        obtain ⟨i, _, e⟩ := mem_colL.1 (hc ▸ List.mem_cons_self .. : x ∈ colL (n + 1 + 1) bs)
        rw [rl, show (x == n + 1) = false by rw [beq_eq_false_iff_ne]; omega]; rfl
theorem KB20 : FnOk Try.prog 20 (F20 B19) := ok20 B22 B56 KB23 KB56 B19 fun ws r h => ⟨20000, by
  rw [← h, m20, B22, Option.bind_some, B19, reachS]
  cases e : wE ws == 0 with
  | false => simp only [bne, e, Bool.not_false, cond_true, cond_false]
  | true =>
    have h0 : wE ws = 0 := by simpa using e
    obtain ⟨h7, hp, _⟩ := wE_zero h0
    have hsum := hp.sum
    have hlen := canL_len ws
    simp only [bne, e, Bool.not_true, cond_true, cond_false, B56, if_pos h0, Option.bind_some]
    have main := rangeFrom (canL ws) false (fun n (_ : Unit) t => l20a B22 B56 20000 (canL ws) n (t - 1)) (fun t xs _ => some (rc ((t : Int) - 1) xs, 0))
      (fun n _ t x rest ht hx hd hr ih => by
        have hw : w64 ((t : Int) - 1 + 1) = (t : Int) := by rw [w64_small (by omega)]; omega
        have ih := ih ()
        rw [show ((t + 1 : Nat) : Int) - 1 = (t : Int) by omega] at ih
        simp only [l20a, hw, ixA ht, ixB ht, cond_true, chk_true, Int.toNat_natCast, hx, ih, rc]
        rw [show (t : Int) - 1 + 1 = (t : Int) by omega]
        cases x <;> rfl)
      (fun n _ => by
        have hw : w64 (((canL ws).length : Int) - 1 + 1) = ((canL ws).length : Int) := by rw [w64_small (by omega)]; omega
        simp only [l20a, hw, ixE, cond_false]; rfl) 20000 () 1 (by omega) (by omega)
    refine Eq.trans main ?_
    rw [rc_rl, ← col_pos hp]; rfl⟩
end Go.Proofs.Ytjcgjbdlgmbepaa
