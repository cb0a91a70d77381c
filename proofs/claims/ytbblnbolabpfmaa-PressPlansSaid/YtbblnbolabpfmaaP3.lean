/-
  Numbers are compared and sorted; the greedy set.
-/
import Derived.Test.YtbblnbolabpfmaaP2
namespace Go.Proofs.Ytbblnbolabpfmaa
open Go.RowKit
set_option linter.unusedVariables false

/-! ### compare -/
def cmpI (x y : Int) : Int := cond (decide (x < y)) (-1) (cond (decide (x > y)) 1 0)
theorem cmpI_lt (x y : Int) : decide (cmpI x y < 0) = decide (x < y) := by
  unfold cmpI
  by_cases h : x < y
  · simp [h]
  · by_cases g : x > y <;> simp [h, g]
def B80 (x : Int) : Option Bool := some false
theorem KB80 : FnOk Try.prog 80 (F80 B80) := ok80 B80 fun x r h => ⟨0, by rw [← h]; simp [m80, B80]⟩
def B62 (x y : Int) : Option Int := some (cmpI x y)
theorem KB62 : FnOk Try.prog 62 (F62 B62) := ok62 B80 KB80 B62 fun x y r h => ⟨0, by
  rw [← h]; simp only [m62, B80, B62, Option.bind_some, cond_false, cmpI]
  cases decide (x < y) <;> cases decide (x > y) <;> rfl⟩
def B72 (a b : Od) : Option Int := some (cmpI a.2.1 b.2.1)
theorem KB72 : FnOk Try.prog 72 (F72 B72) := ok72 B62 KB62 B72 fun a b r h => ⟨0, by rw [← h]; rfl⟩

def inR (l : List Od) (i : Int) : Bool := decide (0 ≤ i ∧ i < (l.length : Int))
def B78 (a b : Int) (l : List Od) : Option (Int × List Od) := cond (inR l a && inR l b) (some (cmpI (l.getD b.toNat d3).2.1 (l.getD a.toNat d3).2.1, l)) none
theorem KB78 : FnOk Try.prog 78 (F78c B78) := ok78c B62 KB62 B78 fun a b l r h => ⟨0, by
  rw [← h]; unfold B78 at h ⊢
  cases e1 : inR l a with
  | false => rw [e1] at h; cases h
  | true =>
    cases e2 : inR l b with
    | false => rw [e1, e2] at h; cases h
    | true =>
      unfold inR at e1 e2
      simp only [m78c, e1, e2, chk_true, B62, Option.bind_some, Bool.and_true, cond_true]⟩
def B61 (a b : Int) (l : List Od) : Option (Int × List Od) := cond (inR l a && inR l b) (some (cmpI (l.getD a.toNat d3).1 (l.getD b.toNat d3).1, l)) none
theorem KB61 : FnOk Try.prog 61 (F61c B61) := ok61c B62 KB62 B61 fun a b l r h => ⟨0, by
  rw [← h]; unfold B61 at h ⊢
  cases e1 : inR l a with
  | false => rw [e1] at h; cases h
  | true =>
    cases e2 : inR l b with
    | false => rw [e1, e2] at h; cases h
    | true =>
      unfold inR at e1 e2
      simp only [m61c, e1, e2, chk_true, B62, Option.bind_some, Bool.and_true, cond_true]⟩

/-! ### insertion sort -/
/-- From the right: past all that it is less than. (The list is turned round.) -/
def insRev (lt : Int → Int → Bool) (x : Int) : List Int → List Int
  | [] => [x]
  | y :: r => cond (lt x y) (y :: insRev lt x r) (x :: y :: r)
def isortR (lt : Int → Int → Bool) (L : List Int) : List Int := (L.foldl (fun P x => insRev lt x P) []).reverse

theorem insRev_perm (lt : Int → Int → Bool) (x : Int) : ∀ P, (insRev lt x P).Perm (x :: P)
  | [] => .refl _
  | y :: r => by
    simp only [insRev]
    cases lt x y with
    | true => exact ((insRev_perm lt x r).cons y).trans (.swap x y r)
    | false => exact .refl _

theorem isort_fold_perm (lt : Int → Int → Bool) : ∀ (L P : List Int), (L.foldl (fun P x => insRev lt x P) P).Perm (L ++ P)
  | [], P => .refl _
  | x :: L, P => by
    simp only [List.foldl_cons, List.cons_append]
    refine (isort_fold_perm lt L _).trans ?_
    exact ((insRev_perm lt x P).append_left L).trans List.perm_middle

theorem isortR_perm (lt : Int → Int → Bool) (L : List Int) : (isortR lt L).Perm L := by
  unfold isortR
  exact (List.reverse_perm _).trans (by simpa using isort_fold_perm lt L [])

theorem getD_mid {α : Type} (A : List α) (x d : α) (C : List α) : (A ++ x :: C).getD A.length d = x := by simp [List.getD]
theorem getD_mid1 {α : Type} (A : List α) (x y d : α) (C : List α) : (A ++ x :: y :: C).getD (A.length + 1) d = y := by simp [List.getD]
theorem set_mid2 {α : Type} (A : List α) (x y : α) (C : List α) : (((A ++ x :: y :: C).set (A.length + 1) x).set A.length y) = A ++ y :: x :: C := by
  simp

/-- What an order of two numbers answers. -/
structure CmpOk (cmp : Int → Int → List Od → Option (Int × List Od)) (lt : Int → Int → Bool) (l : List Od) : Prop where
  ok : ∀ a b, inR l a = true → inR l b = true → ∃ v, cmp a b l = some (v, l) ∧ decide (v < 0) = lt a b

theorem cmp78 (l : List Od) : CmpOk B78 (fun a b => decide ((l.getD b.toNat d3).2.1 < (l.getD a.toNat d3).2.1)) l := ⟨fun a b h1 h2 => ⟨_, by unfold B78; rw [h1, h2]; rfl, cmpI_lt _ _⟩⟩
theorem cmp61 (l : List Od) : CmpOk B61 (fun a b => decide ((l.getD a.toNat d3).1 < (l.getD b.toNat d3).1)) l := ⟨fun a b h1 h2 => ⟨_, by unfold B61; rw [h1, h2]; rfl, cmpI_lt _ _⟩⟩

def lt78 (l : List Od) (a b : Int) : Bool := decide ((l.getD b.toNat d3).2.1 < (l.getD a.toNat d3).2.1)
def lt61 (l : List Od) (a b : Int) : Bool := decide ((l.getD a.toNat d3).1 < (l.getD b.toNat d3).1)

def B86 (lt : List Od → Int → Int → Bool) (a b : Int) (L : List Int) (l : List Od) : Option (List Int × List Od) :=
  if a = 0 ∧ b = (L.length : Int) ∧ L.length ≤ 1000 ∧ ∀ i ∈ L, inR l i = true then some (isortR (lt l) L, l) else none

/-- The inner loop. -/
theorem in78 {l : List Od} {N : Nat} {b i : Int} {rec : Int → List Int → List Od → Option (List Int × List Od)} {x : Int} (hx : inR l x = true) : ∀ (A Bs C : List Int) (n : Nat), (∀ y ∈ A, inR l y = true) → A.length < n → A.length + Bs.length + C.length ≤ 1000 →
    l86c78b B78 N 0 b i rec n (A.length : Int) (A.reverse ++ x :: (Bs.reverse ++ C)) l = rec (w64 (i + 1)) ((Bs ++ insRev (lt78 l) x A).reverse ++ C) l
  | [], Bs, C, n, _, hn, _ => by
    obtain ⟨m, rfl⟩ : ∃ m, n = m + 1 := ⟨n - 1, by omega⟩
    simp [l86c78b, insRev]
  | y :: A, Bs, C, n, hA, hn, hlen => by
    obtain ⟨m, rfl⟩ : ∃ m, n = m + 1 := ⟨n - 1, by omega⟩
    simp only [List.length_cons] at hn hlen
    have hy := hA y (by simp)
    have ih := in78 hx (N := N) (b := b) (i := i) (rec := rec) A (Bs ++ [y]) C m (fun z hz => hA z (List.mem_cons_of_mem _ hz)) (by omega) (by simp only [List.length_append, List.length_cons, List.length_nil]; omega)
    obtain ⟨v, hv1, hv2⟩ := (cmp78 l).ok x y hx hy
    have hL : (y :: A).reverse ++ x :: (Bs.reverse ++ C) = A.reverse ++ y :: x :: (Bs.reverse ++ C) := by simp
    have e0 : w64 (((A.length + 1 : Nat) : Int) - 1) = (A.length : Int) := by rw [w64_small (by omega)]; omega
    have hlen2 : (A.reverse ++ y :: x :: (Bs.reverse ++ C)).length = A.length + 2 + (Bs.length + C.length) := by simp; omega
    have g1 : (A.reverse ++ y :: x :: (Bs.reverse ++ C)).getD (A.length + 1) 0 = x := by have := getD_mid1 A.reverse y x 0 (Bs.reverse ++ C); rwa [List.length_reverse] at this
    have g0 : (A.reverse ++ y :: x :: (Bs.reverse ++ C)).getD A.length 0 = y := by have := getD_mid A.reverse y 0 (x :: (Bs.reverse ++ C)); rwa [List.length_reverse] at this
    have s2 : (((A.reverse ++ y :: x :: (Bs.reverse ++ C)).set (A.length + 1) y).set A.length x) = A.reverse ++ x :: y :: (Bs.reverse ++ C) := by have := set_mid2 A.reverse y x (Bs.reverse ++ C); rwa [List.length_reverse] at this
    have hgt : decide (((A.length + 1 : Nat) : Int) > 0) = true := decide_eq_true (by omega)
    rw [hL]
    simp only [List.length_cons, l86c78b, hgt, cond_true, e0, Int.toNat_natCast, g1, g0, ixB (show A.length + 1 < (A.reverse ++ y :: x :: (Bs.reverse ++ C)).length by omega), ixB (show A.length < (A.reverse ++ y :: x :: (Bs.reverse ++ C)).length by omega), chk_true, hv1, Option.bind_some, hv2, List.length_set, s2]
    show cond (lt78 l x y) _ _ = _
    have hq : insRev (lt78 l) x (y :: A) = cond (lt78 l x y) (y :: insRev (lt78 l) x A) (x :: y :: A) := rfl
    cases hc : lt78 l x y with
    | true =>
      rw [hq, hc, cond_true, cond_true]
      have : A.reverse ++ x :: y :: (Bs.reverse ++ C) = A.reverse ++ x :: ((Bs ++ [y]).reverse ++ C) := by simp
      rw [this, ih]; simp
    | false => rw [hq, hc, cond_false, cond_false]; simp

theorem in61 {l : List Od} {N : Nat} {b i : Int} {rec : Int → List Int → List Od → Option (List Int × List Od)} {x : Int} (hx : inR l x = true) : ∀ (A Bs C : List Int) (n : Nat), (∀ y ∈ A, inR l y = true) → A.length < n → A.length + Bs.length + C.length ≤ 1000 →
    l86c61b B61 N 0 b i rec n (A.length : Int) (A.reverse ++ x :: (Bs.reverse ++ C)) l = rec (w64 (i + 1)) ((Bs ++ insRev (lt61 l) x A).reverse ++ C) l
  | [], Bs, C, n, _, hn, _ => by
    obtain ⟨m, rfl⟩ : ∃ m, n = m + 1 := ⟨n - 1, by omega⟩
    simp [l86c61b, insRev]
  | y :: A, Bs, C, n, hA, hn, hlen => by
    obtain ⟨m, rfl⟩ : ∃ m, n = m + 1 := ⟨n - 1, by omega⟩
    simp only [List.length_cons] at hn hlen
    have hy := hA y (by simp)
    have ih := in61 hx (N := N) (b := b) (i := i) (rec := rec) A (Bs ++ [y]) C m (fun z hz => hA z (List.mem_cons_of_mem _ hz)) (by omega) (by simp only [List.length_append, List.length_cons, List.length_nil]; omega)
    obtain ⟨v, hv1, hv2⟩ := (cmp61 l).ok x y hx hy
    have hL : (y :: A).reverse ++ x :: (Bs.reverse ++ C) = A.reverse ++ y :: x :: (Bs.reverse ++ C) := by simp
    have e0 : w64 (((A.length + 1 : Nat) : Int) - 1) = (A.length : Int) := by rw [w64_small (by omega)]; omega
    have hlen2 : (A.reverse ++ y :: x :: (Bs.reverse ++ C)).length = A.length + 2 + (Bs.length + C.length) := by simp; omega
    have g1 : (A.reverse ++ y :: x :: (Bs.reverse ++ C)).getD (A.length + 1) 0 = x := by have := getD_mid1 A.reverse y x 0 (Bs.reverse ++ C); rwa [List.length_reverse] at this
    have g0 : (A.reverse ++ y :: x :: (Bs.reverse ++ C)).getD A.length 0 = y := by have := getD_mid A.reverse y 0 (x :: (Bs.reverse ++ C)); rwa [List.length_reverse] at this
    have s2 : (((A.reverse ++ y :: x :: (Bs.reverse ++ C)).set (A.length + 1) y).set A.length x) = A.reverse ++ x :: y :: (Bs.reverse ++ C) := by have := set_mid2 A.reverse y x (Bs.reverse ++ C); rwa [List.length_reverse] at this
    have hgt : decide (((A.length + 1 : Nat) : Int) > 0) = true := decide_eq_true (by omega)
    rw [hL]
    simp only [List.length_cons, l86c61b, hgt, cond_true, e0, Int.toNat_natCast, g1, g0, ixB (show A.length + 1 < (A.reverse ++ y :: x :: (Bs.reverse ++ C)).length by omega), ixB (show A.length < (A.reverse ++ y :: x :: (Bs.reverse ++ C)).length by omega), chk_true, hv1, Option.bind_some, hv2, List.length_set, s2]
    show cond (lt61 l x y) _ _ = _
    have hq : insRev (lt61 l) x (y :: A) = cond (lt61 l x y) (y :: insRev (lt61 l) x A) (x :: y :: A) := rfl
    cases hc : lt61 l x y with
    | true =>
      rw [hq, hc, cond_true, cond_true]
      have : A.reverse ++ x :: y :: (Bs.reverse ++ C) = A.reverse ++ x :: ((Bs ++ [y]).reverse ++ C) := by simp
      rw [this, ih]; simp
    | false => rw [hq, hc, cond_false, cond_false]; simp

theorem out78 {l : List Od} {N : Nat} (hN : 1002 ≤ N) : ∀ (rest P : List Int) (n : Nat), (∀ y ∈ P, inR l y = true) → (∀ y ∈ rest, inR l y = true) → rest.length < n → P.length + rest.length ≤ 1000 →
    l86c78a B78 N 0 ((P.length + rest.length : Nat) : Int) n (P.length : Int) (P.reverse ++ rest) l = some ((rest.foldl (fun P x => insRev (lt78 l) x P) P).reverse, l)
  | [], P, n, _, _, hn, _ => by
    obtain ⟨m, rfl⟩ : ∃ m, n = m + 1 := ⟨n - 1, by omega⟩
    simp [l86c78a]
  | x :: rest, P, n, hP, hR, hn, hlen => by
    obtain ⟨m, rfl⟩ : ∃ m, n = m + 1 := ⟨n - 1, by omega⟩
    simp only [List.length_cons] at hn hlen ⊢
    have hlt : decide ((P.length : Int) < ((P.length + (rest.length + 1) : Nat) : Int)) = true := decide_eq_true (by omega)
    simp only [l86c78a, hlt, cond_true]
    have h1 := in78 (l := l) (N := N) (b := ((P.length + (rest.length + 1) : Nat) : Int)) (i := (P.length : Int)) (rec := fun y0 y1 y2 => l86c78a B78 N 0 ((P.length + (rest.length + 1) : Nat) : Int) m y0 y1 y2) (x := x) (hR x (by simp)) P [] rest N hP (by omega) (by simp; omega)
    simp only [List.reverse_nil, List.nil_append] at h1
    rw [h1, w64_succ (by omega)]
    have hpl : (insRev (lt78 l) x P).length = P.length + 1 := by rw [(insRev_perm _ x P).length_eq]; rfl
    have ih := out78 hN rest (insRev (lt78 l) x P) m (fun y hy => by
      rcases List.mem_cons.1 ((insRev_perm (lt78 l) x P).mem_iff.1 hy) with rfl | h
      · exact hR _ (by simp)
      · exact hP y h) (fun y hy => hR y (List.mem_cons_of_mem _ hy)) (by omega) (by omega)
    rw [hpl] at ih
    rw [show P.length + (rest.length + 1) = P.length + 1 + rest.length by omega]
    exact ih

theorem out61 {l : List Od} {N : Nat} (hN : 1002 ≤ N) : ∀ (rest P : List Int) (n : Nat), (∀ y ∈ P, inR l y = true) → (∀ y ∈ rest, inR l y = true) → rest.length < n → P.length + rest.length ≤ 1000 →
    l86c61a B61 N 0 ((P.length + rest.length : Nat) : Int) n (P.length : Int) (P.reverse ++ rest) l = some ((rest.foldl (fun P x => insRev (lt61 l) x P) P).reverse, l)
  | [], P, n, _, _, hn, _ => by
    obtain ⟨m, rfl⟩ : ∃ m, n = m + 1 := ⟨n - 1, by omega⟩
    simp [l86c61a]
  | x :: rest, P, n, hP, hR, hn, hlen => by
    obtain ⟨m, rfl⟩ : ∃ m, n = m + 1 := ⟨n - 1, by omega⟩
    simp only [List.length_cons] at hn hlen ⊢
    have hlt : decide ((P.length : Int) < ((P.length + (rest.length + 1) : Nat) : Int)) = true := decide_eq_true (by omega)
    simp only [l86c61a, hlt, cond_true]
    have h1 := in61 (l := l) (N := N) (b := ((P.length + (rest.length + 1) : Nat) : Int)) (i := (P.length : Int)) (rec := fun y0 y1 y2 => l86c61a B61 N 0 ((P.length + (rest.length + 1) : Nat) : Int) m y0 y1 y2) (x := x) (hR x (by simp)) P [] rest N hP (by omega) (by simp; omega)
    simp only [List.reverse_nil, List.nil_append] at h1
    rw [h1, w64_succ (by omega)]
    have hpl : (insRev (lt61 l) x P).length = P.length + 1 := by rw [(insRev_perm _ x P).length_eq]; rfl
    have ih := out61 hN rest (insRev (lt61 l) x P) m (fun y hy => by
      rcases List.mem_cons.1 ((insRev_perm (lt61 l) x P).mem_iff.1 hy) with rfl | h
      · exact hR _ (by simp)
      · exact hP y h) (fun y hy => hR y (List.mem_cons_of_mem _ hy)) (by omega) (by omega)
    rw [hpl] at ih
    rw [show P.length + (rest.length + 1) = P.length + 1 + rest.length by omega]
    exact ih

theorem start0 (lt : List Od → Int → Int → Bool) (l : List Od) (x : Int) (r : List Int) : isortR (lt l) (x :: r) = (r.foldl (fun P x => insRev (lt l) x P) [x]).reverse := rfl

theorem KB86c78 : FnOk Try.prog 86 (F86c78 (B86 lt78)) := ok86c78 B78 KB78 (B86 lt78) fun a b L l r h => ⟨1002, by
  simp only [B86] at h
  split at h
  · rename_i hh
    obtain ⟨rfl, rfl, hl, hr⟩ := hh
    rw [← h, m86c78]
    cases L with
    | nil => rfl
    | cons x rest =>
      have := out78 (l := l) (N := 1002) (by omega) rest [x] 1002 (fun y hy => by rcases List.mem_singleton.1 hy with rfl; exact hr _ (by simp)) (fun y hy => hr y (List.mem_cons_of_mem _ hy)) (by simp only [List.length_cons] at hl; omega) (by simp only [List.length_cons, List.length_nil] at hl ⊢; omega)
      rw [start0 lt78, ← this]
      have e : w64 (0 + 1) = ((([x] : List Int).length : Nat) : Int) := by rw [w64_small (by omega)]; rfl
      rw [e]
      congr 1
      simp; omega
  · cases h⟩

theorem KB86c61 : FnOk Try.prog 86 (F86c61 (B86 lt61)) := ok86c61 B61 KB61 (B86 lt61) fun a b L l r h => ⟨1002, by
  simp only [B86] at h
  split at h
  · rename_i hh
    obtain ⟨rfl, rfl, hl, hr⟩ := hh
    rw [← h, m86c61]
    cases L with
    | nil => rfl
    | cons x rest =>
      have := out61 (l := l) (N := 1002) (by omega) rest [x] 1002 (fun y hy => by rcases List.mem_singleton.1 hy with rfl; exact hr _ (by simp)) (fun y hy => hr y (List.mem_cons_of_mem _ hy)) (by simp only [List.length_cons] at hl; omega) (by simp only [List.length_cons, List.length_nil] at hl ⊢; omega)
      rw [start0 lt61, ← this]
      have e : w64 (0 + 1) = ((([x] : List Int).length : Nat) : Int) := by rw [w64_small (by omega)]; rfl
      rw [e]
      congr 1
      simp; omega
  · cases h⟩

def B60 (lt : List Od → Int → Int → Bool) (L : List Int) (l : List Od) : Option (List Int × List Od) :=
  if L.length < 20 ∧ ∀ i ∈ L, inR l i = true then some (isortR (lt l) L, l) else none
def B79 (lt : List Od → Int → Int → Bool) (n : Int) (L : List Int) (l : List Od) : Option (List Int × List Od) :=
  if n = (L.length : Int) then B60 lt L l else none

theorem KB79c78 : FnOk Try.prog 79 (F79c78 (B79 lt78)) := ok79c78 (B86 lt78) A87c78 KB86c78 K87c78 (B79 lt78) fun n L l r h => ⟨1, by
  simp only [B79] at h
  split at h
  · rename_i hn
    subst hn
    simp only [B60] at h
    split at h
    · rename_i hh
      have h1 : decide ((20 : Int) ≤ (L.length : Int)) = false := decide_eq_false (by omega)
      have h2 : decide ((20 : Int) < (L.length : Int)) = false := decide_eq_false (by omega)
      have h3 : B86 lt78 0 (L.length : Int) L l = some (isortR (lt78 l) L, l) := if_pos ⟨rfl, rfl, by omega, hh.2⟩
      simp only [m79c78, l79c78a, h1, cond_false, h3, Option.bind_some, l79c78b, h2]
      exact h
    · cases h
  · cases h⟩
theorem KB79c61 : FnOk Try.prog 79 (F79c61 (B79 lt61)) := ok79c61 (B86 lt61) A87c61 KB86c61 K87c61 (B79 lt61) fun n L l r h => ⟨1, by
  simp only [B79] at h
  split at h
  · rename_i hn
    subst hn
    simp only [B60] at h
    split at h
    · rename_i hh
      have h1 : decide ((20 : Int) ≤ (L.length : Int)) = false := decide_eq_false (by omega)
      have h2 : decide ((20 : Int) < (L.length : Int)) = false := decide_eq_false (by omega)
      have h3 : B86 lt61 0 (L.length : Int) L l = some (isortR (lt61 l) L, l) := if_pos ⟨rfl, rfl, by omega, hh.2⟩
      simp only [m79c61, l79c61a, h1, cond_false, h3, Option.bind_some, l79c61b, h2]
      exact h
    · cases h
  · cases h⟩
theorem KB60c78 : FnOk Try.prog 60 (F60c78 (B60 lt78)) := ok60c78 (B79 lt78) KB79c78 (B60 lt78) fun L l r h => ⟨0, by
  rw [m60c78, B79, if_pos rfl, h]; rfl⟩
theorem KB60c61 : FnOk Try.prog 60 (F60c61 (B60 lt61)) := ok60c61 (B79 lt61) KB79c61 (B60 lt61) fun L l r h => ⟨0, by
  rw [m60c61, B79, if_pos rfl, h]; rfl⟩

end Go.Proofs.Ytbblnbolabpfmaa
