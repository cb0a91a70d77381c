/-
  Orders and days; the program's functions as plain functions: up to the greedy set.
-/
import Derived.Test.YtbblnbolabpfmaaQV
import Derived.Test.YtbblnbolabpfmaaWC0
import Derived.Test.YtbblnbolabpfmaaFit
namespace Go.Proofs.Ytbblnbolabpfmaa

/-- How many numbers below n have p. -/
def cnt (p : Nat → Bool) : Nat → Nat
  | 0 => 0
  | n + 1 => cnt p n + (p n).toNat

theorem cnt_congr {p q : Nat → Bool} : ∀ {n : Nat}, (∀ i, i < n → p i = q i) → cnt p n = cnt q n
  | 0, _ => rfl
  | n + 1, h => by simp only [cnt]; rw [cnt_congr fun i hi => h i (by omega), h n (by omega)]

theorem cnt_le {p q : Nat → Bool} : ∀ {n : Nat}, (∀ i, i < n → p i = true → q i = true) → cnt p n ≤ cnt q n
  | 0, _ => Nat.le_refl _
  | n + 1, h => by
    simp only [cnt]
    have := cnt_le (n := n) fun i hi => h i (by omega)
    have := h n (by omega)
    cases hp : p n <;> cases hq : q n <;> simp_all <;> omega

theorem cnt_split (p q : Nat → Bool) : ∀ n : Nat, cnt p n = cnt (fun i => p i && q i) n + cnt (fun i => p i && !q i) n
  | 0 => rfl
  | n + 1 => by
    simp only [cnt]
    have := cnt_split p q n
    cases hp : p n <;> cases hq : q n <;> simp_all <;> omega

theorem cnt_or {p q : Nat → Bool} : ∀ {n : Nat}, (∀ i, i < n → p i = true → q i = false) → cnt (fun i => p i || q i) n = cnt p n + cnt q n
  | 0, _ => rfl
  | n + 1, h => by
    simp only [cnt]
    have := cnt_or (n := n) fun i hi => h i (by omega)
    have := h n (by omega)
    cases hp : p n <;> cases hq : q n <;> simp_all <;> omega

theorem cnt_one (p : Nat → Bool) (e : Nat) : ∀ n : Nat, cnt (fun i => p i && i == e) n = if e < n ∧ p e = true then 1 else 0
  | 0 => rfl
  | n + 1 => by
    simp only [cnt]
    rw [cnt_one p e n]
    by_cases h : n = e
    · subst h
      cases hp : p n <;> simp
    · have : (n == e) = false := by simpa using h
      rw [this, Bool.and_false]
      by_cases h1 : e < n
      · have : e < n + 1 := by omega
        simp [h1, this]
      · have : ¬ e < n + 1 := by omega
        simp [h1, this]

theorem cnt_zero {p : Nat → Bool} {n : Nat} (h : ∀ i, i < n → p i = false) : cnt p n = 0 := by
  rw [cnt_congr (q := fun _ => false) h]
  induction n with
  | zero => rfl
  | succ n ih => simp only [cnt, Bool.toNat_false, Nat.add_zero]; exact ih fun i hi => h i (by omega)

theorem cnt_ex {p q : Nat → Bool} : ∀ {n : Nat}, cnt p n < cnt q n → ∃ i, i < n ∧ q i = true ∧ p i = false
  | 0, h => by simp [cnt] at h
  | n + 1, h => by
    by_cases h1 : cnt p n < cnt q n
    · obtain ⟨i, a, b⟩ := cnt_ex h1; exact ⟨i, by omega, b⟩
    · refine ⟨n, by omega, ?_⟩
      simp only [cnt] at h
      cases hp : p n <;> cases hq : q n <;> simp_all <;> omega

theorem cnt_le_n (p : Nat → Bool) : ∀ n : Nat, cnt p n ≤ n
  | 0 => Nat.le_refl _
  | n + 1 => by simp only [cnt]; have := cnt_le_n p n; cases p n <;> simp <;> omega

/-- With one more. -/
def ins (p : Nat → Bool) (e : Nat) : Nat → Bool := fun i => p i || i == e
/-- With one less. -/
def del (p : Nat → Bool) (e : Nat) : Nat → Bool := fun i => p i && !(i == e)

theorem cnt_ins {p : Nat → Bool} {e n : Nat} (h : e < n) (hp : p e = false) (r : Nat → Bool) : cnt (fun i => ins p e i && r i) n = cnt (fun i => p i && r i) n + (r e).toNat := by
  have h1 : cnt (fun i => ins p e i && r i) n = cnt (fun i => (p i && r i) || (r i && i == e)) n := cnt_congr fun i _ => by
    simp only [ins]; cases p i <;> cases r i <;> simp
  rw [h1, cnt_or, cnt_one]
  · cases hr : r e <;> simp [h]
  · intro i hi hpi
    simp only [Bool.and_eq_true] at hpi
    cases hie : i == e
    · simp
    · have : i = e := by simpa using hie
      subst this; rw [hp] at hpi; simp at hpi

theorem cnt_del {p : Nat → Bool} {e n : Nat} (h : e < n) (hp : p e = true) (r : Nat → Bool) : cnt (fun i => del p e i && r i) n + (r e).toNat = cnt (fun i => p i && r i) n := by
  have h1 := cnt_split (fun i => p i && r i) (fun i => i == e) n
  have h2 : cnt (fun i => p i && r i && (i == e)) n = (r e).toNat := by
    rw [cnt_one (fun i => p i && r i) e n]; simp [h, hp]; cases r e <;> rfl
  have h3 : cnt (fun i => p i && r i && !(i == e)) n = cnt (fun i => del p e i && r i) n := cnt_congr fun i _ => by
    simp only [del]; cases p i <;> cases r i <;> simp
  omega

/-- A sum over those below n that have p. -/
def ws (f : Nat → Int) (p : Nat → Bool) : Nat → Int
  | 0 => 0
  | n + 1 => ws f p n + cond (p n) (f n) 0

theorem ws_congr {f g : Nat → Int} {p q : Nat → Bool} : ∀ {n : Nat}, (∀ i, i < n → p i = q i) → (∀ i, i < n → p i = true → f i = g i) → ws f p n = ws g q n
  | 0, _, _ => rfl
  | n + 1, h, hf => by
    simp only [ws]
    rw [ws_congr (fun i hi => h i (by omega)) (fun i hi => hf i (by omega)), ← h n (by omega)]
    cases hp : p n
    · simp
    · simp [hf n (by omega) hp]

theorem ws_split (f : Nat → Int) (p q : Nat → Bool) : ∀ n : Nat, ws f p n = ws f (fun i => p i && q i) n + ws f (fun i => p i && !q i) n
  | 0 => rfl
  | n + 1 => by
    simp only [ws]
    have := ws_split f p q n
    cases hp : p n <;> cases hq : q n <;> simp_all <;> omega

theorem ws_or (f : Nat → Int) {p q : Nat → Bool} : ∀ {n : Nat}, (∀ i, i < n → p i = true → q i = false) → ws f (fun i => p i || q i) n = ws f p n + ws f q n
  | 0, _ => rfl
  | n + 1, h => by
    simp only [ws]
    have := ws_or f (n := n) fun i hi => h i (by omega)
    have := h n (by omega)
    cases hp : p n <;> cases hq : q n <;> simp_all <;> omega

theorem ws_one (f : Nat → Int) (p : Nat → Bool) (e : Nat) : ∀ n : Nat, ws f (fun i => p i && i == e) n = if e < n ∧ p e = true then f e else 0
  | 0 => by simp [ws]
  | n + 1 => by
    have ih := ws_one f p e n
    simp only [ws]
    rw [ih]
    by_cases h : n = e
    · subst h
      cases hp : p n <;> simp
    · have : (n == e) = false := by simpa using h
      simp only [this, Bool.and_false, cond_false]
      by_cases h1 : e < n
      · have : e < n + 1 := by omega
        simp [h1, this]
      · have : ¬ e < n + 1 := by omega
        simp [h1, this]

theorem ws_ins (f : Nat → Int) {p : Nat → Bool} {e n : Nat} (h : e < n) (hp : p e = false) : ws f (ins p e) n = ws f p n + f e := by
  have h1 : ws f (ins p e) n = ws f (fun i => p i || (true && i == e)) n := ws_congr (fun i _ => by simp [ins]) (fun _ _ _ => rfl)
  rw [h1, ws_or f, ws_one f (fun _ => true)]
  · simp [h]
  · intro i hi hpi
    cases hie : i == e
    · simp
    · have : i = e := by simpa using hie
      subst this; rw [hp] at hpi; cases hpi

theorem ws_del (f : Nat → Int) {p : Nat → Bool} {e n : Nat} (h : e < n) (hp : p e = true) : ws f (del p e) n + f e = ws f p n := by
  have h1 := ws_split f p (fun i => i == e) n
  rw [ws_one f p e n] at h1
  simp only [h, hp, true_and, if_true] at h1
  show ws f (fun i => p i && !(i == e)) n + f e = ws f p n
  omega

theorem ws_nonneg {f : Nat → Int} {p : Nat → Bool} : ∀ {n : Nat}, (∀ i, i < n → p i = true → 0 ≤ f i) → 0 ≤ ws f p n
  | 0, _ => by simp [ws]
  | n + 1, h => by
    simp only [ws]
    have h1 := ws_nonneg (n := n) fun i hi => h i (by omega)
    have h2 := h n (by omega)
    cases hp : p n
    · simpa using h1
    · have := h2 hp; simp only [cond_true]; omega

section
variable (dy : Nat → Nat) (n : Nat)

/-- Orders of a set that are due by a day. -/
def by_ (S : Nat → Bool) (d : Nat) : Nat := cnt (fun i => S i && decide (dy i ≤ d)) n
/-- Orders of a set that are due later. -/
def aft (S : Nat → Bool) (d : Nat) : Nat := cnt (fun i => S i && !decide (dy i ≤ d)) n

/-- A set that can be on time. -/
def Pos (S : Nat → Bool) : Prop := ∀ d, by_ dy n S d ≤ d

theorem by_aft (S : Nat → Bool) (d : Nat) : by_ dy n S d + aft dy n S d = cnt S n := (cnt_split S _ n).symm

theorem by_le {S T : Nat → Bool} (h : ∀ i, i < n → S i = true → T i = true) (d : Nat) : by_ dy n S d ≤ by_ dy n T d := cnt_le fun i hi hp => by
  simp only [Bool.and_eq_true] at hp ⊢; exact ⟨h i hi hp.1, hp.2⟩
theorem aft_le {S T : Nat → Bool} (h : ∀ i, i < n → S i = true → T i = true) (d : Nat) : aft dy n S d ≤ aft dy n T d := cnt_le fun i hi hp => by
  simp only [Bool.and_eq_true] at hp ⊢; exact ⟨h i hi hp.1, hp.2⟩
theorem by_mono (S : Nat → Bool) {d d' : Nat} (h : d ≤ d') : by_ dy n S d ≤ by_ dy n S d' := cnt_le fun i hi hp => by
  simp only [Bool.and_eq_true, decide_eq_true_eq] at hp ⊢; exact ⟨hp.1, by omega⟩

variable {dy n}

theorem Pos.sub {S T : Nat → Bool} (h : Pos dy n T) (hs : ∀ i, i < n → S i = true → T i = true) : Pos dy n S := fun d => Nat.le_trans (by_le dy n hs d) (h d)

theorem Pos.empty : Pos dy n fun _ => false := fun d => by
  have : by_ dy n (fun _ => false) d = 0 := cnt_zero fun i _ => by simp
  omega

theorem by_ins {S : Nat → Bool} {e : Nat} (he : e < n) (hS : S e = false) (d : Nat) : by_ dy n (ins S e) d = by_ dy n S d + (if dy e ≤ d then 1 else 0) := by
  unfold by_
  rw [cnt_ins he hS]
  by_cases h : dy e ≤ d <;> simp [h]

theorem by_del {S : Nat → Bool} {e : Nat} (he : e < n) (hS : S e = true) (d : Nat) : by_ dy n (del S e) d + (if dy e ≤ d then 1 else 0) = by_ dy n S d := by
  unfold by_
  rw [← cnt_del he hS]
  by_cases h : dy e ≤ d <;> simp [h]

/-- A day up to which no more can be done. -/
def Tight (dy : Nat → Nat) (n : Nat) (S : Nat → Bool) (d : Nat) : Prop := by_ dy n S d = d

theorem tight0 {S : Nat → Bool} (h : Pos dy n S) : Tight dy n S 0 := by
  have := h 0; unfold Tight; omega

theorem tight_le {S : Nat → Bool} {d : Nat} (h : Tight dy n S d) : d ≤ n := by
  have : by_ dy n S d ≤ n := cnt_le_n _ n
  unfold Tight at h; omega

/-- THE LAST TIGHT DAY. -/
theorem last_tight {S : Nat → Bool} (h : Pos dy n S) : ∃ D, Tight dy n S D ∧ ∀ d, Tight dy n S d → d ≤ D := by
  have key : ∀ k, ∃ D, Tight dy n S D ∧ ∀ d, d ≤ k → Tight dy n S d → d ≤ D := by
    intro k
    induction k with
    | zero => exact ⟨0, tight0 h, fun d hd _ => hd⟩
    | succ k ih =>
      obtain ⟨D, h1, h2⟩ := ih
      by_cases hk : Tight dy n S (k + 1)
      · exact ⟨k + 1, hk, fun d hd _ => hd⟩
      · refine ⟨D, h1, fun d hd ht => ?_⟩
        by_cases e : d = k + 1
        · subst e; exact absurd ht hk
        · exact h2 d (by omega) ht
  obtain ⟨D, h1, h2⟩ := key n
  exact ⟨D, h1, fun d hd => h2 d (tight_le hd) hd⟩

theorem Tight.up {S T : Nat → Bool} (hs : ∀ i, i < n → S i = true → T i = true) (hT : Pos dy n T) {d : Nat} (h : Tight dy n S d) : Tight dy n T d := by
  have := by_le dy n hs d
  have := hT d
  unfold Tight at *; omega

/-- One more is possible just if it is due behind the last tight day. -/
theorem ins_pos {S : Nat → Bool} (h : Pos dy n S) {e : Nat} (he : e < n) (hS : S e = false) : Pos dy n (ins S e) ↔ ∀ d, dy e ≤ d → ¬ Tight dy n S d := by
  constructor
  · intro hp d hd ht
    have := hp d
    rw [by_ins he hS] at this
    simp only [hd, if_true] at this
    unfold Tight at ht; omega
  · intro hn d
    rw [by_ins he hS]
    have h1 := h d
    by_cases hd : dy e ≤ d
    · have := hn d hd
      unfold Tight at this
      simp only [hd, if_true]; omega
    · simp only [hd, if_false]; omega

/-- Nothing of E can be added. -/
def Max (dy : Nat → Nat) (n : Nat) (E S : Nat → Bool) : Prop := ∀ e, e < n → E e = true → S e = false → ¬ Pos dy n (ins S e)

/-- Behind the last tight day a set to which nothing can be added has everything. -/
theorem Max.aft {E S : Nat → Bool} (hp : Pos dy n S) (hm : Max dy n E S) (hsub : ∀ i, i < n → S i = true → E i = true) {D : Nat} (hD : ∀ d, Tight dy n S d → d ≤ D) : aft dy n S D = aft dy n E D := by
  refine Nat.le_antisymm (aft_le dy n hsub D) (cnt_le fun i hi hq => ?_)
  simp only [Bool.and_eq_true, Bool.not_eq_true', decide_eq_false_iff_not] at hq ⊢
  refine ⟨?_, hq.2⟩
  cases hs : S i with
  | true => rfl
  | false =>
    exfalso
    refine hm i hi hq.1 hs ((ins_pos hp hi hs).2 fun d hd ht => ?_)
    have := hD d ht; omega

/-- THE RANK: no possible set is larger. -/
theorem Max.rank {E S T : Nat → Bool} (hp : Pos dy n S) (hm : Max dy n E S) (hsub : ∀ i, i < n → S i = true → E i = true) (hT : Pos dy n T) (hTE : ∀ i, i < n → T i = true → E i = true) : cnt T n ≤ cnt S n := by
  obtain ⟨D, h1, h2⟩ := last_tight hp
  have h3 := hm.aft hp hsub h2
  have h4 := aft_le dy n hTE D
  have h5 := hT D
  have h6 := by_aft dy n T D
  have h7 := by_aft dy n S D
  unfold Tight at h1; omega

/-- Two sets of one size to which nothing can be added have the same last tight day. -/
theorem Max.same {E S T : Nat → Bool} (hp : Pos dy n S) (hm : Max dy n E S) (hsub : ∀ i, i < n → S i = true → E i = true) (hT : Pos dy n T) (hTE : ∀ i, i < n → T i = true → E i = true) (hc : cnt T n = cnt S n) {D : Nat} (h1 : Tight dy n S D) (h2 : ∀ d, Tight dy n S d → d ≤ D) : Tight dy n T D := by
  have h3 := hm.aft hp hsub h2
  have h4 := aft_le dy n hTE D
  have h5 := hT D
  have h6 := by_aft dy n T D
  have h7 := by_aft dy n S D
  unfold Tight at *; omega

end

end Go.Proofs.Ytbblnbolabpfmaa

namespace Go.Proofs.Ytbblnbolabpfmaa

/-- A sum from 1 to M. -/
def lay (g : Nat → Nat) : Nat → Nat
  | 0 => 0
  | c + 1 => lay g c + g (c + 1)

theorem lay_le {g h : Nat → Nat} : ∀ {M : Nat}, (∀ c, 1 ≤ c → c ≤ M → g c ≤ h c) → lay g M ≤ lay h M
  | 0, _ => Nat.le_refl _
  | M + 1, hc => by
    simp only [lay]
    have h1 := lay_le (M := M) fun c a b => hc c a (by omega)
    have h2 := hc (M + 1) (by omega) (Nat.le_refl _)
    omega

theorem lay_eq {g h : Nat → Nat} : ∀ {M : Nat}, (∀ c, 1 ≤ c → c ≤ M → g c ≤ h c) → lay g M = lay h M → ∀ c, 1 ≤ c → c ≤ M → g c = h c
  | 0, _, _, c, a, b => by omega
  | M + 1, hc, he, c, a, b => by
    simp only [lay] at he
    have h1 := lay_le (M := M) fun c a b => hc c a (by omega)
    have h2 := hc (M + 1) (by omega) (Nat.le_refl _)
    by_cases e : c = M + 1
    · subst e; omega
    · exact lay_eq (M := M) (fun c a b => hc c a (by omega)) (by omega) c a (by omega)

theorem lay_add (g h : Nat → Nat) : ∀ M : Nat, lay (fun c => g c + h c) M = lay g M + lay h M
  | 0 => rfl
  | M + 1 => by simp only [lay]; have := lay_add g h M; omega

theorem lay_step (k : Int) (h0 : 0 ≤ k) : ∀ M : Nat, (lay (fun c => (decide ((c : Int) ≤ k)).toNat) M : Int) = if (M : Int) ≤ k then (M : Int) else k
  | 0 => by simp [lay, h0]
  | M + 1 => by
    have ih := lay_step k h0 M
    simp only [lay]
    rw [Int.natCast_add, ih]
    by_cases h1 : ((M + 1 : Nat) : Int) ≤ k
    · have : (M : Int) ≤ k := by omega
      simp only [h1, this, if_true, decide_true, Bool.toNat_true]; omega
    · by_cases h2 : (M : Int) ≤ k
      · have : k = M := by omega
        simp only [h1, h2, if_true, if_false, decide_false, Bool.toNat_false]; omega
      · simp only [h1, h2, if_false, decide_false, Bool.toNat_false]; omega

theorem lay_zero : ∀ M : Nat, lay (fun _ => 0) M = 0
  | 0 => rfl
  | M + 1 => by simp only [lay]; rw [lay_zero M]

/-- A sum of fines, fine by fine. -/
theorem cake {f : Nat → Int} {S : Nat → Bool} {M : Nat} : ∀ {n : Nat}, (∀ i, i < n → S i = true → 0 ≤ f i ∧ f i ≤ M) → ws f S n = (lay (fun c => cnt (fun i => S i && decide ((c : Int) ≤ f i)) n) M : Int)
  | 0, _ => by
    have : lay (fun c => cnt (fun i => S i && decide ((c : Int) ≤ f i)) 0) M = 0 := lay_zero M
    rw [this]; rfl
  | n + 1, h => by
    have ih := cake (n := n) fun i hi hs => h i (by omega) hs
    simp only [ws, cnt]
    rw [ih, lay_add, Int.natCast_add]
    congr 1
    cases hs : S n with
    | false => simp only [Bool.false_and, Bool.toNat_false, cond_false]; rw [lay_zero]; rfl
    | true =>
      obtain ⟨h1, h2⟩ := h n (by omega) hs
      simp only [Bool.true_and, cond_true]
      rw [lay_step (f n) h1 M]
      split <;> omega

section
variable {dy : Nat → Nat} {f : Nat → Int} {n M : Nat}

/-- Which order comes first. -/
def bef (f : Nat → Int) (i e : Nat) : Bool := decide (f e < f i) || (decide (f i = f e) && decide (i < e))

/-- A set to which each order by falling fines was added if it could be. -/
structure Gr (dy : Nat → Nat) (f : Nat → Int) (n : Nat) (A G : Nat → Bool) : Prop where
  pos : Pos dy n G
  sub : ∀ i, i < n → A i = true → G i = true
  no : ∀ e, e < n → G e = false → ¬ Pos dy n (ins (fun i => G i && (A i || bef f i e)) e)

theorem ins_sub {X Y : Nat → Bool} {e : Nat} (h : ∀ i, i < n → X i = true → Y i = true) : ∀ i, i < n → ins X e i = true → ins Y e i = true := fun i hi hp => by
  simp only [ins, Bool.or_eq_true] at hp ⊢
  exact hp.imp (h i hi) id

/-- At each fine: nothing can be added. -/
theorem Gr.max {A G : Nat → Bool} (h : Gr dy f n A G) (c : Int) : Max dy n (fun i => A i || decide (c ≤ f i)) (fun i => G i && (A i || decide (c ≤ f i))) := fun e he hE hS hp => by
  simp only [Bool.or_eq_true, decide_eq_true_eq] at hE
  have hG : G e = false := by
    cases hg : G e with
    | false => rfl
    | true => simp only [hg, Bool.true_and, Bool.or_eq_false_iff, decide_eq_false_iff_not] at hS; rcases hE with hE | hE <;> simp_all
  have hA : A e = false := by
    cases ha : A e with
    | false => rfl
    | true => have := h.sub e he ha; rw [hG] at this; cases this
  have hc : c ≤ f e := by rcases hE with hE | hE <;> simp_all
  refine h.no e he hG (hp.sub (ins_sub fun i hi hq => ?_))
  simp only [Bool.and_eq_true, Bool.or_eq_true, bef, decide_eq_true_eq] at hq ⊢
  refine ⟨hq.1, hq.2.imp id fun hq => ?_⟩
  rcases hq with hq | hq <;> omega

theorem Gr.rank {A G T : Nat → Bool} (h : Gr dy f n A G) (hT : Pos dy n T) (hA : ∀ i, i < n → A i = true → T i = true) (c : Int) : cnt (fun i => T i && decide (c ≤ f i)) n ≤ cnt (fun i => G i && decide (c ≤ f i)) n := by
  have hp : Pos dy n (fun i => G i && (A i || decide (c ≤ f i))) := h.pos.sub fun i _ hi => by simp only [Bool.and_eq_true] at hi; exact hi.1
  have hTp : Pos dy n (fun i => T i && (A i || decide (c ≤ f i))) := hT.sub fun i _ hi => by simp only [Bool.and_eq_true] at hi; exact hi.1
  have h1 := (h.max c).rank hp (fun i _ hi => by simp only [Bool.and_eq_true] at hi; exact hi.2) hTp (fun i _ hi => by simp only [Bool.and_eq_true] at hi; exact hi.2)
  have key : ∀ X : Nat → Bool, (∀ i, i < n → A i = true → X i = true) → cnt (fun i => X i && (A i || decide (c ≤ f i))) n = cnt (fun i => X i && decide (c ≤ f i)) n + cnt (fun i => A i && !decide (c ≤ f i)) n := fun X hX => by
    rw [← cnt_or]
    · refine cnt_congr fun i hi => ?_
      cases ha : A i with
      | true => rw [hX i hi ha]; cases decide (c ≤ f i) <;> rfl
      | false => cases X i <;> cases decide (c ≤ f i) <;> rfl
    · intro i _ hi
      simp only [Bool.and_eq_true] at hi
      rw [hi.2]; simp
  rw [key T hA, key G h.sub] at h1
  omega

/-- THE GREEDY SET HAS THE GREATEST SUM, among sets with what it began with. -/
theorem Gr.best {A G T : Nat → Bool} (h : Gr dy f n A G) (hf : ∀ i, i < n → 0 ≤ f i ∧ f i ≤ M) (hT : Pos dy n T) (hA : ∀ i, i < n → A i = true → T i = true) : ws f T n ≤ ws f G n := by
  rw [cake (M := M) fun i hi _ => hf i hi, cake (M := M) fun i hi _ => hf i hi]
  exact Int.ofNat_le.2 (lay_le fun c _ _ => h.rank hT hA c)

theorem Gr.size {A G T : Nat → Bool} (h : Gr dy f n A G) (hf : ∀ i, i < n → 0 ≤ f i) (hT : Pos dy n T) (hA : ∀ i, i < n → A i = true → T i = true) : cnt T n ≤ cnt G n := by
  have h1 := h.rank hT hA 0
  have key : ∀ X : Nat → Bool, cnt (fun i => X i && decide ((0 : Int) ≤ f i)) n = cnt X n := fun X => cnt_congr fun i hi => by simp [hf i hi]
  rw [key, key] at h1
  exact h1

/-- A set with the greatest sum has, fine by fine, as many orders. -/
theorem Gr.even {G T : Nat → Bool} (h : Gr dy f n (fun _ => false) G) (hf : ∀ i, i < n → 0 ≤ f i ∧ f i ≤ M) (hT : Pos dy n T) (he : ws f T n = ws f G n) {c : Nat} (h1 : 1 ≤ c) : cnt (fun i => T i && decide ((c : Int) ≤ f i)) n = cnt (fun i => G i && decide ((c : Int) ≤ f i)) n := by
  rw [cake (M := M) fun i hi _ => hf i hi, cake (M := M) fun i hi _ => hf i hi] at he
  by_cases hc : c ≤ M
  · exact lay_eq (fun c _ _ => h.rank hT (fun i _ h => by cases h) c) (Int.ofNat.inj he) c h1 hc
  · have : ∀ X : Nat → Bool, cnt (fun i => X i && decide ((c : Int) ≤ f i)) n = 0 := fun X => cnt_zero fun i hi => by
      have := (hf i hi).2
      have : ¬ (c : Int) ≤ f i := by omega
      simp [this]
    rw [this, this]

/-- THE GREEDY SET IS THE FIRST OF THE LARGEST BEST SETS. -/
theorem Gr.first {G S : Nat → Bool} (h : Gr dy f n (fun _ => false) G) (hf : ∀ i, i < n → 0 ≤ f i ∧ f i ≤ M) (hS : Pos dy n S) (he : ws f S n = ws f G n) {e : Nat} (hen : e < n) (hlow : ∀ i, i < e → S i = G i) (h1 : S e = true) (h2 : G e = false) : False := by
  obtain ⟨k, hk⟩ : ∃ k : Nat, f e = k := ⟨(f e).toNat, by have := (hf e hen).1; omega⟩
  -- what is greater; what is alike and comes before
  let X : Nat → Bool := fun i => S i && decide (((k + 1 : Nat) : Int) ≤ f i)
  let Y : Nat → Bool := fun i => G i && decide (((k + 1 : Nat) : Int) ≤ f i)
  let Q : Nat → Bool := fun i => G i && (decide (f i = f e) && decide (i < e))
  have hc : cnt X n = cnt Y n := h.even hf hS he (c := k + 1) (by omega)
  have dX : ∀ i, i < n → X i = true → Q i = false := fun i _ hx => by
    simp only [X, Q, Bool.and_eq_true, decide_eq_true_eq] at hx ⊢
    have : ¬ f i = f e := by omega
    simp [this]
  have dY : ∀ i, i < n → Y i = true → Q i = false := fun i _ hx => by
    simp only [Y, Q, Bool.and_eq_true, decide_eq_true_eq] at hx ⊢
    have : ¬ f i = f e := by omega
    simp [this]
  have hcc : cnt (fun i => X i || Q i) n = cnt (fun i => Y i || Q i) n := by rw [cnt_or dX, cnt_or dY, hc]
  have sG : ∀ i, i < n → (Y i || Q i) = true → G i = true := fun i _ hi => by
    simp only [Y, Q, Bool.or_eq_true, Bool.and_eq_true] at hi
    rcases hi with hi | hi <;> exact hi.1
  have sS : ∀ i, i < n → (X i || Q i) = true → del S e i = true := fun i _ hi => by
    simp only [X, Q, Bool.or_eq_true, Bool.and_eq_true, decide_eq_true_eq] at hi
    simp only [del, Bool.and_eq_true, Bool.not_eq_true', beq_eq_false_iff_ne]
    rcases hi with hi | hi
    · exact ⟨hi.1, fun q => by subst q; omega⟩
    · exact ⟨by rw [hlow i hi.2.2]; exact hi.1, by omega⟩
  have hYp : Pos dy n (fun i => Y i || Q i) := h.pos.sub sG
  have hdS : Pos dy n (del S e) := hS.sub fun i _ hi => by simp only [del, Bool.and_eq_true] at hi; exact hi.1
  have hXp : Pos dy n (fun i => X i || Q i) := hdS.sub sS
  -- nothing greater can be added
  have hm : Max dy n (fun i => decide (((k + 1 : Nat) : Int) ≤ f i) || Q i) (fun i => Y i || Q i) := fun e' he' hE hY hp => by
    have hQ : Q e' = false := by
      cases q : Q e' with
      | false => rfl
      | true => simp [q] at hY
    simp only [hQ, Bool.or_false, decide_eq_true_eq] at hE
    have hG : G e' = false := by
      cases g : G e' with
      | false => rfl
      | true =>
        exfalso
        have : Y e' = true := by simp only [Y, g, Bool.true_and, decide_eq_true_eq]; exact hE
        simp only [this, Bool.true_or] at hY; cases hY
    refine h.no e' he' hG (hp.sub (ins_sub fun i hi hq => ?_))
    simp only [Bool.false_or, Bool.and_eq_true, bef, Bool.or_eq_true, decide_eq_true_eq] at hq
    simp only [Y, Bool.or_eq_true, Bool.and_eq_true, decide_eq_true_eq]
    refine .inl ⟨hq.1, ?_⟩
    rcases hq.2 with hq | hq <;> omega
  have hsubE : ∀ i, i < n → (Y i || Q i) = true → (decide (((k + 1 : Nat) : Int) ≤ f i) || Q i) = true := fun i _ hi => by
    simp only [Y, Bool.or_eq_true, Bool.and_eq_true] at hi ⊢
    exact hi.imp (·.2) id
  have hsubX : ∀ i, i < n → (X i || Q i) = true → (decide (((k + 1 : Nat) : Int) ≤ f i) || Q i) = true := fun i _ hi => by
    simp only [X, Bool.or_eq_true, Bool.and_eq_true] at hi ⊢
    exact hi.imp (·.2) id
  obtain ⟨D, t1, t2⟩ := last_tight hYp
  have t3 := hm.same hYp hsubE hXp hsubX hcc t1 t2
  -- e was refused
  have hno := h.no e hen h2
  have hno' : ¬ Pos dy n (ins (fun i => Y i || Q i) e) := fun hp => hno (hp.sub (ins_sub fun i hi hq => by
    simp only [Bool.false_or, Bool.and_eq_true, bef, Bool.or_eq_true, decide_eq_true_eq] at hq
    simp only [Y, Q, Bool.or_eq_true, Bool.and_eq_true, decide_eq_true_eq]
    rcases hq.2 with hq2 | hq2
    · exact .inl ⟨hq.1, by omega⟩
    · exact .inr ⟨hq.1, hq2⟩))
  have hYe : (Y e || Q e) = false := by simp [Y, Q, h2]
  have hex : ∃ d, dy e ≤ d ∧ Tight dy n (fun i => Y i || Q i) d := Classical.byContradiction fun hn => hno' ((ins_pos hYp hen hYe).2 fun d hd ht => hn ⟨d, hd, ht⟩)
  obtain ⟨d, d1, d2⟩ := hex
  have d3 := t2 d d2
  have t4 := t3.up sS hdS
  have hde : del S e e = false := by simp [del]
  refine (ins_pos hdS hen hde).1 (hS.sub fun i _ hi => ?_) D (by omega) t4
  simp only [ins, del, Bool.or_eq_true, Bool.and_eq_true, Bool.not_eq_true', beq_eq_false_iff_ne, beq_iff_eq] at hi
  rcases hi with hi | hi
  · exact hi.1
  · rw [hi]; exact h1

/-- HOW MANY OF A FINE CAN BE ON TIME. -/
theorem Gr.count {A G : Nat → Bool} (h : Gr dy f n A G) (c : Int) (hA : ∀ i, i < n → A i = false) : ∃ D, cnt (fun i => G i && decide (c ≤ f i)) n = D + aft dy n (fun i => decide (c ≤ f i)) D := by
  have e1 : ∀ i, i < n → (G i && (A i || decide (c ≤ f i))) = (G i && decide (c ≤ f i)) := fun i hi => by rw [hA i hi]; rfl
  have hp : Pos dy n (fun i => G i && (A i || decide (c ≤ f i))) := h.pos.sub fun i _ hi => by simp only [Bool.and_eq_true] at hi; exact hi.1
  obtain ⟨D, h1, h2⟩ := last_tight hp
  have h3 := (h.max c).aft hp (fun i _ hi => by simp only [Bool.and_eq_true] at hi; exact hi.2) h2
  have h4 := by_aft dy n (fun i => G i && (A i || decide (c ≤ f i))) D
  have h5 : cnt (fun i => G i && (A i || decide (c ≤ f i))) n = cnt (fun i => G i && decide (c ≤ f i)) n := cnt_congr e1
  have h6 : aft dy n (fun i => A i || decide (c ≤ f i)) D = aft dy n (fun i => decide (c ≤ f i)) D := cnt_congr fun i hi => by simp [hA i hi]
  refine ⟨D, ?_⟩
  unfold Tight at h1; omega

theorem count_le {T : Nat → Bool} (hT : Pos dy n T) (c : Int) (d : Nat) : cnt (fun i => T i && decide (c ≤ f i)) n ≤ d + aft dy n (fun i => decide (c ≤ f i)) d := by
  have hp : Pos dy n (fun i => T i && decide (c ≤ f i)) := hT.sub fun i _ hi => by simp only [Bool.and_eq_true] at hi; exact hi.1
  have h1 := by_aft dy n (fun i => T i && decide (c ≤ f i)) d
  have h2 := hp d
  have h3 := aft_le dy n (S := fun i => T i && decide (c ≤ f i)) (T := fun i => decide (c ≤ f i)) (fun i _ hi => by simp only [Bool.and_eq_true] at hi; exact hi.2) d
  omega
end

end Go.Proofs.Ytbblnbolabpfmaa

namespace Go.Proofs.Ytbblnbolabpfmaa

/-- Behind all that are not smaller. -/
def qput (f : Nat → Int) (i : Nat) : List Nat → List Nat
  | [] => [i]
  | j :: r => if f j < f i then i :: j :: r else j :: qput f i r

def qday (dy : Nat → Nat) (f : Nat → Int) (n t : Nat) (Q : List Nat) : List Nat := (List.range n).foldl (fun q i => if dy i = t then qput f i q else q) Q

def run (dy : Nat → Nat) (f : Nat → Int) (n : Nat) : Nat → List Nat → Int
  | 0, _ => 0
  | t + 1, Q => match qday dy f n (t + 1) Q with
    | [] => run dy f n t []
    | i :: r => f i + run dy f n t r

theorem qput_mem {f : Nat → Int} {i : Nat} : ∀ {Q : List Nat} {x : Nat}, x ∈ qput f i Q ↔ x = i ∨ x ∈ Q
  | [], x => by simp [qput]
  | j :: r, x => by
    unfold qput
    split
    · simp
    · simp only [List.mem_cons, qput_mem (Q := r)]
      constructor
      · rintro (h | h | h)
        · exact .inr (.inl h)
        · exact .inl h
        · exact .inr (.inr h)
      · rintro (h | h | h)
        · exact .inr (.inl h)
        · exact .inl h
        · exact .inr (.inr h)

theorem qput_sorted {f : Nat → Int} {i : Nat} : ∀ {Q : List Nat}, Q.Pairwise (fun a b => f b ≤ f a) → (qput f i Q).Pairwise (fun a b => f b ≤ f a)
  | [], _ => by simp [qput]
  | j :: r, h => by
    obtain ⟨h1, h2⟩ := List.pairwise_cons.1 h
    unfold qput
    split
    · rename_i hlt
      refine List.pairwise_cons.2 ⟨fun x hx => ?_, h⟩
      rcases List.mem_cons.1 hx with rfl | hx
      · omega
      · have := h1 x hx; omega
    · rename_i hlt
      refine List.pairwise_cons.2 ⟨fun x hx => ?_, qput_sorted h2⟩
      rcases qput_mem.1 hx with rfl | hx
      · omega
      · exact h1 x hx

theorem qput_nodup {f : Nat → Int} {i : Nat} : ∀ {Q : List Nat}, Q.Nodup → i ∉ Q → (qput f i Q).Nodup
  | [], _, _ => by simp [qput]
  | j :: r, h, hi => by
    obtain ⟨h1, h2⟩ := List.nodup_cons.1 h
    unfold qput
    split
    · exact List.nodup_cons.2 ⟨hi, h⟩
    · refine List.nodup_cons.2 ⟨fun hx => ?_, qput_nodup h2 fun hx => hi (List.mem_cons_of_mem _ hx)⟩
      rcases qput_mem.1 hx with rfl | hx
      · exact hi (by simp)
      · exact h1 hx

section
variable {dy : Nat → Nat} {f : Nat → Int} {n : Nat}

theorem qfold_ok {t : Nat} : ∀ (L : List Nat) (Q : List Nat), L.Nodup → Q.Nodup → Q.Pairwise (fun a b => f b ≤ f a) → (∀ i ∈ L, dy i = t → i ∉ Q) →
    (L.foldl (fun q i => if dy i = t then qput f i q else q) Q).Nodup ∧ (L.foldl (fun q i => if dy i = t then qput f i q else q) Q).Pairwise (fun a b => f b ≤ f a) ∧ ∀ x, x ∈ L.foldl (fun q i => if dy i = t then qput f i q else q) Q ↔ x ∈ Q ∨ (x ∈ L ∧ dy x = t)
  | [], Q, _, h1, h2, _ => ⟨h1, h2, fun x => by simp⟩
  | i :: L, Q, hL, h1, h2, h3 => by
    obtain ⟨hi, hL'⟩ := List.nodup_cons.1 hL
    simp only [List.foldl_cons]
    by_cases ht : dy i = t
    · rw [if_pos ht]
      have hiQ := h3 i (by simp) ht
      obtain ⟨a, b, c⟩ := qfold_ok L (qput f i Q) hL' (qput_nodup h1 hiQ) (qput_sorted h2) (fun j hj hjt hm => by
        rcases qput_mem.1 hm with rfl | hm
        · exact hi hj
        · exact h3 j (List.mem_cons_of_mem _ hj) hjt hm)
      refine ⟨a, b, fun x => ?_⟩
      rw [c x, qput_mem]
      constructor
      · rintro ((rfl | h) | ⟨h, h'⟩)
        · exact .inr ⟨by simp, ht⟩
        · exact .inl h
        · exact .inr ⟨List.mem_cons_of_mem _ h, h'⟩
      · rintro (h | ⟨h, h'⟩)
        · exact .inl (.inr h)
        · rcases List.mem_cons.1 h with rfl | h
          · exact .inl (.inl rfl)
          · exact .inr ⟨h, h'⟩
    · rw [if_neg ht]
      obtain ⟨a, b, c⟩ := qfold_ok L Q hL' h1 h2 (fun j hj => h3 j (List.mem_cons_of_mem _ hj))
      refine ⟨a, b, fun x => ?_⟩
      rw [c x]
      constructor
      · rintro (h | ⟨h, h'⟩)
        · exact .inl h
        · exact .inr ⟨List.mem_cons_of_mem _ h, h'⟩
      · rintro (h | ⟨h, h'⟩)
        · exact .inl h
        · rcases List.mem_cons.1 h with rfl | h
          · exact absurd h' ht
          · exact .inr ⟨h, h'⟩

/-- What can be done on the days up to t, by orders of Q and those that are due by then. -/
structure Fit (dy : Nat → Nat) (n t : Nat) (Q : List Nat) (T : Nat → Bool) : Prop where
  mem : ∀ i, i < n → T i = true → i ∈ Q ∨ dy i ≤ t
  day : ∀ d, d < t → by_ dy n T d ≤ d
  all : cnt T n ≤ t

/-- What waits. -/
structure Wt (dy : Nat → Nat) (f : Nat → Int) (n t : Nat) (Q : List Nat) : Prop where
  nd : Q.Nodup
  srt : Q.Pairwise (fun a b => f b ≤ f a)
  mem : ∀ i ∈ Q, i < n ∧ t < dy i

theorem qday_ok {t : Nat} {Q : List Nat} (h : Wt dy f n (t + 1) Q) : Wt dy f n t (qday dy f n (t + 1) Q) ∧ ∀ x, x ∈ qday dy f n (t + 1) Q ↔ x ∈ Q ∨ (x < n ∧ dy x = t + 1) := by
  obtain ⟨a, b, c⟩ := qfold_ok (dy := dy) (f := f) (t := t + 1) (List.range n) Q List.nodup_range h.nd h.srt (fun i hi ht hq => by have := (h.mem i hq).2; omega)
  refine ⟨⟨a, b, fun i hi => ?_⟩, fun x => by have := c x; rw [List.mem_range] at this; exact this⟩
  rcases (c i).1 hi with h' | ⟨h', h''⟩
  · have := h.mem i h'; exact ⟨this.1, by omega⟩
  · exact ⟨List.mem_range.1 h', by omega⟩

theorem ws_le {T : Nat → Bool} {i x : Nat} (hx : x < n) (hT : T x = true) (h : f x ≤ f i) : ws f T n ≤ f i + ws f (del T x) n := by
  have := ws_del f hx hT; omega

theorem by_del_le {T : Nat → Bool} (x d : Nat) : by_ dy n (del T x) d ≤ by_ dy n T d := by_le dy n (fun i _ hi => by simp only [del, Bool.and_eq_true] at hi; exact hi.1) d

theorem cnt_del1 {T : Nat → Bool} {x : Nat} (hx : x < n) (hT : T x = true) : cnt (del T x) n + 1 = cnt T n := by
  have := cnt_del hx hT (fun _ => true)
  simpa using this

theorem cnt_ins1 {T : Nat → Bool} {x : Nat} (hx : x < n) (hT : T x = false) : cnt (ins T x) n = cnt T n + 1 := by
  have := cnt_ins hx hT (fun _ => true)
  simpa using this

/-- NO SET CAN BE WORTH MORE. -/
theorem run_max (hf : ∀ i, i < n → 0 ≤ f i) : ∀ (t : Nat) (Q : List Nat) (T : Nat → Bool), Wt dy f n t Q → Fit dy n t Q T → ws f T n ≤ run dy f n t Q
  | 0, Q, T, hQ, hT => by
    have h0 : cnt T n = 0 := by have := hT.all; omega
    have hno : ∀ i, i < n → T i = false := fun i hi => by
      cases h : T i with
      | false => rfl
      | true =>
        exfalso
        have h1 := cnt_one T i n
        rw [if_pos ⟨hi, h⟩] at h1
        have h2 := cnt_le (p := fun j => T j && j == i) (q := T) (n := n) fun j _ hj => by simp only [Bool.and_eq_true] at hj; exact hj.1
        omega
    have : ws f T n = ws f (fun _ => false) n := ws_congr hno (fun i hi h => rfl)
    rw [this]
    have : ∀ m, ws f (fun _ => false) m = 0 := fun m => by
      induction m with
      | zero => rfl
      | succ m ih => simp only [ws, ih, cond_false]; rfl
    rw [this n]; exact Int.le_refl 0
  | t + 1, Q, T, hQ, hT => by
    obtain ⟨w1, w2⟩ := qday_ok hQ
    simp only [run]
    cases hq : qday dy f n (t + 1) Q with
    | nil =>
      simp only
      rw [hq] at w1 w2
      have hm : ∀ i, i < n → T i = true → dy i ≤ t := fun i hi hTi => by
        have h1 : ¬ (i ∈ Q ∨ (i < n ∧ dy i = t + 1)) := fun h => by have := (w2 i).2 h; simp at this
        rcases hT.mem i hi hTi with h | h
        · exact absurd (.inl h) h1
        · have : dy i ≠ t + 1 := fun e => h1 (.inr ⟨hi, e⟩)
          omega
      refine run_max hf t [] T ⟨.nil, .nil, fun i hi => by simp at hi⟩ ⟨fun i hi h => .inr (hm i hi h), fun d hd => hT.day d (by omega), ?_⟩
      have h1 := hT.day t (by omega)
      have h2 : by_ dy n T t = cnt T n := cnt_congr fun i hi => by
        cases h : T i with
        | false => rfl
        | true => simp [hm i hi h]
      omega
    | cons i r =>
      simp only
      rw [hq] at w1 w2
      have hi : i < n ∧ t < dy i := w1.mem i (by simp)
      obtain ⟨nd1, nd2⟩ := List.nodup_cons.1 w1.nd
      obtain ⟨s1, s2⟩ := List.pairwise_cons.1 w1.srt
      have hr : Wt dy f n t r := ⟨nd2, s2, fun j hj => w1.mem j (List.mem_cons_of_mem _ hj)⟩
      -- one is taken out
      have take : ∀ x, x < n → T x = true → f x ≤ f i → (∀ j, j < n → del T x j = true → j ∈ r ∨ dy j ≤ t) → ws f T n ≤ f i + run dy f n t r := fun x hx hTx hfx hm => by
        have h1 := ws_le hx hTx hfx
        have h2 := cnt_del1 hx hTx
        have h3 := hT.all
        have h4 := run_max hf t r (del T x) hr ⟨hm, fun d hd => Nat.le_trans (by_del_le x d) (hT.day d (by omega)), by omega⟩
        omega
      have inQ : ∀ j, j < n → T j = true → t < dy j → j = i ∨ j ∈ r := fun j hj hTj hd => by
        have : j ∈ i :: r := (w2 j).2 (by
          rcases hT.mem j hj hTj with h | h
          · exact .inl h
          · exact .inr ⟨hj, by omega⟩)
        simpa using this
      by_cases hTi : T i = true
      · exact take i hi.1 hTi (Int.le_refl _) fun j hj hdj => by
          simp only [del, Bool.and_eq_true, Bool.not_eq_true', beq_eq_false_iff_ne] at hdj
          by_cases hd : dy j ≤ t
          · exact .inr hd
          · rcases inQ j hj hdj.1 (by omega) with h | h
            · exact absurd h hdj.2
            · exact .inl h
      · by_cases hex : ∃ x, x < n ∧ T x = true ∧ t < dy x
        · obtain ⟨x, hx, hTx, hdx⟩ := hex
          have hxr : x ∈ r := by
            rcases inQ x hx hTx hdx with rfl | h
            · exact absurd hTx hTi
            · exact h
          exact take x hx hTx (s1 x hxr) fun j hj hdj => by
            simp only [del, Bool.and_eq_true, Bool.not_eq_true', beq_eq_false_iff_ne] at hdj
            by_cases hd : dy j ≤ t
            · exact .inr hd
            · rcases inQ j hj hdj.1 (by omega) with rfl | h
              · exact absurd hdj.1 hTi
              · exact .inl h
        · have hm : ∀ j, j < n → T j = true → dy j ≤ t := fun j hj hTj => Nat.le_of_not_lt fun h => hex ⟨j, hj, hTj, h⟩
          have h1 := hT.day t (by omega)
          have h2 : by_ dy n T t = cnt T n := cnt_congr fun j hj => by
            cases h : T j with
            | false => rfl
            | true => simp [hm j hj h]
          have h4 := run_max hf t r T hr ⟨fun j hj h => .inr (hm j hj h), fun d hd => hT.day d (by omega), by omega⟩
          have := hf i hi.1
          omega

/-- SOME SET IS WORTH AS MUCH. -/
theorem run_ex : ∀ (t : Nat) (Q : List Nat), Wt dy f n t Q → ∃ T, Fit dy n t Q T ∧ ws f T n = run dy f n t Q
  | 0, Q, hQ => by
    refine ⟨fun _ => false, ⟨fun i _ h => (by cases h), fun d hd => by omega, ?_⟩, ?_⟩
    · rw [cnt_zero fun i _ => rfl]; exact Nat.le_refl _
    · simp only [run]
      have : ∀ m, ws f (fun _ => false) m = 0 := fun m => by
        induction m with
        | zero => rfl
        | succ m ih => simp only [ws, ih, cond_false]; rfl
      exact this n
  | t + 1, Q, hQ => by
    obtain ⟨w1, w2⟩ := qday_ok hQ
    simp only [run]
    cases hq : qday dy f n (t + 1) Q with
    | nil =>
      simp only
      obtain ⟨T, h1, h2⟩ := run_ex t [] ⟨.nil, .nil, fun i hi => by simp at hi⟩
      have hm : ∀ i, i < n → T i = true → dy i ≤ t := fun i hi h => (h1.mem i hi h).resolve_left (by simp)
      refine ⟨T, ⟨fun i hi h => .inr (by have := hm i hi h; omega), fun d hd => ?_, by have := h1.all; omega⟩, h2⟩
      by_cases hd' : d < t
      · exact h1.day d hd'
      · obtain rfl : d = t := by omega
        have : by_ dy n T d ≤ cnt T n := cnt_le fun i _ hi => by simp only [Bool.and_eq_true] at hi; exact hi.1
        have := h1.all; omega
    | cons i r =>
      simp only
      rw [hq] at w1 w2
      have hi : i < n ∧ t < dy i := w1.mem i (by simp)
      obtain ⟨nd1, nd2⟩ := List.nodup_cons.1 w1.nd
      obtain ⟨s1, s2⟩ := List.pairwise_cons.1 w1.srt
      obtain ⟨T, h1, h2⟩ := run_ex t r ⟨nd2, s2, fun j hj => w1.mem j (List.mem_cons_of_mem _ hj)⟩
      have hTi : T i = false := by
        cases h : T i with
        | false => rfl
        | true =>
          exfalso
          rcases h1.mem i hi.1 h with h' | h'
          · exact nd1 h'
          · omega
      refine ⟨ins T i, ⟨fun j hj h => ?_, fun d hd => ?_, by rw [cnt_ins1 hi.1 hTi]; have := h1.all; omega⟩, by rw [ws_ins f hi.1 hTi, h2]; omega⟩
      · simp only [ins, Bool.or_eq_true, beq_iff_eq] at h
        have hin : ∀ x, x ∈ i :: r → x ∈ Q ∨ dy x ≤ t + 1 := fun x hx => ((w2 x).1 hx).imp id fun h => by omega
        rcases h with h | rfl
        · rcases h1.mem j hj h with h' | h'
          · exact hin j (List.mem_cons_of_mem _ h')
          · exact .inr (by omega)
        · exact hin j (by simp)
      · rw [by_ins hi.1 hTi, if_neg (by omega), Nat.add_zero]
        by_cases hd' : d < t
        · exact h1.day d hd'
        · obtain rfl : d = t := by omega
          have : by_ dy n T d ≤ cnt T n := cnt_le fun i _ hi => by simp only [Bool.and_eq_true] at hi; exact hi.1
          have := h1.all; omega

/-- From the last day on: the greatest sum of a possible set. -/
theorem run_opt (hf : ∀ i, i < n → 0 ≤ f i) {L : Nat} (hL : ∀ i, i < n → dy i ≤ L) : (∀ T, Pos dy n T → ws f T n ≤ run dy f n L []) ∧ ∃ T, Pos dy n T ∧ ws f T n = run dy f n L [] := by
  have hw : Wt dy f n L [] := ⟨.nil, .nil, fun i hi => by simp at hi⟩
  refine ⟨fun T hT => run_max hf L [] T hw ⟨fun i hi _ => .inr (hL i hi), fun d _ => hT d, ?_⟩, ?_⟩
  · have h1 := hT L
    have h2 : by_ dy n T L = cnt T n := cnt_congr fun i hi => by simp [hL i hi]
    omega
  · obtain ⟨T, h1, h2⟩ := run_ex L [] hw
    refine ⟨T, fun d => ?_, h2⟩
    by_cases hd : d < L
    · exact h1.day d hd
    · have h3 : by_ dy n T d ≤ cnt T n := cnt_le fun i _ hi => by simp only [Bool.and_eq_true] at hi; exact hi.1
      have := h1.all; omega
end

end Go.Proofs.Ytbblnbolabpfmaa

namespace Go.Proofs.Ytbblnbolabpfmaa
open Go.RowKit
set_option linter.unusedVariables false

theorem w64_eq {n : Int} (h0 : -9223372036854775808 ≤ n) (h1 : n < 9223372036854775808) : w64 n = n := by
  simp [w64, IntKind.wrap, IntKind.bits, IntKind.signed]; omega
theorem w64_nat {n : Nat} (h1 : n < 9223372036854775808) : w64 (n : Int) = n := w64_eq (by omega) (by omega)
theorem w64_succ {t : Nat} (h : t < 4611686018427387904) : w64 ((t : Int) + 1) = ((t + 1 : Nat) : Int) := by
  rw [w64_eq (by omega) (by omega)]; omega
theorem chk_true {α : Type} (x : Option α) : chk true x = x := rfl
theorem chk_of {α : Type} {b : Bool} {x : Option α} (h : b = true) : chk b x = x := by rw [h]; rfl
theorem chk_dec {α : Type} {p : Prop} [Decidable p] {x : Option α} (h : p) : chk (decide p) x = x := by rw [decide_eq_true h]; rfl
theorem small_of {n eb : Nat} (h : n * eb ≤ 140737488355328) (hb : 0 < eb) : small n eb = true := by
  have : n ≤ n * eb := Nat.le_mul_of_pos_right n hb
  simp [small, h]; omega
theorem lt_ge {a b : Int} (h : ¬ a < b) : decide (a < b) = false := decide_eq_false h

theorem getD_drop {α : Type} {xs rest : List α} {t : Nat} {x d : α} (h : xs.drop t = x :: rest) : t < xs.length ∧ xs.getD t d = x ∧ xs.drop (t + 1) = rest := by
  have hl : t < xs.length := by
    have := congrArg List.length h
    simp only [List.length_drop, List.length_cons] at this; omega
  refine ⟨hl, ?_, ?_⟩
  · have h2 := congrArg List.head? h
    rw [List.head?_drop] at h2
    rw [List.getD_eq_getElem?_getD, h2]; rfl
  · have h2 := congrArg List.tail h
    rw [List.tail_drop] at h2; exact h2

/-- A loop by index over a list, as a recursion over the list; with an invariant, and the index. -/
theorem rangeIx {α σ ρ : Type} (xs : List α) (d : α) (L : Nat → σ → Int → Option ρ) (I : Nat → List α → σ → Prop) (S : Nat → List α → σ → Option ρ)
    (hs : ∀ (n : Nat) (s : σ) (t : Nat) (x : α) (rest : List α), t < xs.length → xs.getD t d = x → I t (x :: rest) s →
      (∀ s', I (t + 1) rest s' → L n s' ((t + 1 : Nat) : Int) = S (t + 1) rest s') → L (n + 1) s (t : Int) = S t (x :: rest) s)
    (he : ∀ (n : Nat) (s : σ), I xs.length [] s → L (n + 1) s (xs.length : Int) = S xs.length [] s)
    (n : Nat) (s : σ) (hn : xs.length < n) (hI : I 0 xs s) : L n s 0 = S 0 xs s := by
  have main : ∀ (k t n : Nat) (s : σ), t + k = xs.length → k < n → I t (xs.drop t) s → L n s (t : Int) = S t (xs.drop t) s := by
    intro k
    induction k with
    | zero =>
      intro t n s h1 h2 h3
      obtain ⟨m, rfl⟩ : ∃ m, n = m + 1 := ⟨n - 1, by omega⟩
      have : t = xs.length := by omega
      subst this
      rw [List.drop_length] at h3 ⊢
      exact he m s h3
    | succ k ih =>
      intro t n s h1 h2 h3
      obtain ⟨m, rfl⟩ : ∃ m, n = m + 1 := ⟨n - 1, by omega⟩
      cases hd : xs.drop t with
      | nil => have := congrArg List.length hd; simp only [List.length_drop, List.length_nil] at this; omega
      | cons x rest =>
        obtain ⟨a, b, c⟩ := getD_drop (d := d) hd
        rw [hd] at h3
        refine hs m s t x rest a b h3 fun s' hI' => ?_
        rw [← c] at hI' ⊢
        exact ih (t + 1) m s' (by omega) (by omega) hI'
  have := main xs.length 0 n s (by omega) hn (by simpa using hI)
  simpa using this

theorem rangeInd {α σ ρ : Type} (xs : List α) (d : α) (L : Nat → σ → Int → Option ρ) (S : List α → σ → Option ρ)
    (hs : ∀ (n : Nat) (s : σ) (t : Nat) (x : α) (rest : List α), t < xs.length → xs.getD t d = x →
      (∀ s', L n s' ((t + 1 : Nat) : Int) = S rest s') → L (n + 1) s (t : Int) = S (x :: rest) s)
    (he : ∀ (n : Nat) (s : σ), L (n + 1) s (xs.length : Int) = S [] s)
    (n : Nat) (s : σ) (hn : xs.length < n) : L n s 0 = S xs s :=
  rangeIx xs d L (fun _ _ _ => True) (fun _ => S) (fun n s t x rest h1 h2 _ h => hs n s t x rest h1 h2 fun s' => h s' trivial) (fun n s _ => he n s) n s hn trivial

theorem rangeInv {α σ ρ : Type} (xs : List α) (d : α) (L : Nat → σ → Int → Option ρ) (I : List α → σ → Prop) (S : List α → σ → Option ρ)
    (hs : ∀ (n : Nat) (s : σ) (t : Nat) (x : α) (rest : List α), t < xs.length → xs.getD t d = x → I (x :: rest) s →
      (∀ s', I rest s' → L n s' ((t + 1 : Nat) : Int) = S rest s') → L (n + 1) s (t : Int) = S (x :: rest) s)
    (he : ∀ (n : Nat) (s : σ), I [] s → L (n + 1) s (xs.length : Int) = S [] s)
    (n : Nat) (s : σ) (hn : xs.length < n) (hI : I xs s) : L n s 0 = S xs s :=
  rangeIx xs d L (fun _ => I) (fun _ => S) (fun n s t x rest h1 h2 h3 h => hs n s t x rest h1 h2 h3 fun s' => h s') (fun n s h => he n s h) n s hn hI

/-- A loop from lo up to (not at) hi. -/
theorem countUp {σ ρ : Type} (lo hi : Int) (hle : lo ≤ hi) (L : Nat → σ → Int → Option ρ) (I : Int → σ → Prop) (S : Int → σ → Option ρ)
    (hs : ∀ (n : Nat) (s : σ) (t : Int), lo ≤ t → t < hi → I t s → (∀ s', I (t + 1) s' → L n s' (t + 1) = S (t + 1) s') → L (n + 1) s t = S t s)
    (he : ∀ (n : Nat) (s : σ), I hi s → L (n + 1) s hi = S hi s)
    (n : Nat) (s : σ) (hn : (hi - lo).toNat < n) (hI : I lo s) : L n s lo = S lo s := by
  have main : ∀ (k n : Nat) (t : Int) (s : σ), lo ≤ t → t + k = hi → k < n → I t s → L n s t = S t s := by
    intro k
    induction k with
    | zero =>
      intro n t s h0 h1 h2 h3
      obtain ⟨m, rfl⟩ : ∃ m, n = m + 1 := ⟨n - 1, by omega⟩
      have : t = hi := by omega
      subst this; exact he m s h3
    | succ k ih =>
      intro n t s h0 h1 h2 h3
      obtain ⟨m, rfl⟩ : ∃ m, n = m + 1 := ⟨n - 1, by omega⟩
      exact hs m s t h0 (by omega) h3 fun s' h' => ih m (t + 1) s' (by omega) (by omega) (by omega) h'
  exact main (hi - lo).toNat n lo s (by omega) (by omega) hn hI

/-- The same from an index on; the rest is told. -/
theorem rangeFrom {α σ ρ : Type} (xs : List α) (d : α) (L : Nat → σ → Int → Option ρ) (S : Nat → List α → σ → Option ρ)
    (hs : ∀ (n : Nat) (s : σ) (t : Nat) (x : α) (rest : List α), t < xs.length → xs.getD t d = x → xs.drop t = x :: rest → xs.drop (t + 1) = rest →
      (∀ s', L n s' ((t + 1 : Nat) : Int) = S (t + 1) rest s') → L (n + 1) s (t : Int) = S t (x :: rest) s)
    (he : ∀ (n : Nat) (s : σ), L (n + 1) s (xs.length : Int) = S xs.length [] s)
    (n : Nat) (s : σ) (t0 : Nat) (h0 : t0 ≤ xs.length) (hn : xs.length < n + t0) : L n s (t0 : Int) = S t0 (xs.drop t0) s := by
  have main : ∀ (k t n : Nat) (s : σ), t + k = xs.length → k < n → L n s (t : Int) = S t (xs.drop t) s := by
    intro k
    induction k with
    | zero =>
      intro t n s h1 h2
      obtain ⟨m, rfl⟩ : ∃ m, n = m + 1 := ⟨n - 1, by omega⟩
      have : t = xs.length := by omega
      subst this
      rw [List.drop_length]
      exact he m s
    | succ k ih =>
      intro t n s h1 h2
      obtain ⟨m, rfl⟩ : ∃ m, n = m + 1 := ⟨n - 1, by omega⟩
      cases hd : xs.drop t with
      | nil => have := congrArg List.length hd; simp only [List.length_drop, List.length_nil] at this; omega
      | cons x rest =>
        obtain ⟨a, b, c⟩ := getD_drop (d := d) hd
        refine hs m s t x rest a b hd c fun s' => ?_
        rw [← c]
        exact ih (t + 1) m s' (by omega) (by omega)
  exact main (xs.length - t0) t0 n s (by omega) (by omega)

/-- Loops, by what is asked of their results. -/
theorem rangeP {α σ ρ : Type} (xs : List α) (d : α) (L : Nat → σ → Int → Option ρ) (I : Nat → List α → σ → Prop) (Q : Option ρ → Prop)
    (hs : ∀ (n : Nat) (s : σ) (t : Nat) (x : α) (rest : List α), t < xs.length → xs.getD t d = x → xs.drop (t + 1) = rest → I t (x :: rest) s →
      (∀ s', I (t + 1) rest s' → Q (L n s' ((t + 1 : Nat) : Int))) → Q (L (n + 1) s (t : Int)))
    (he : ∀ (n : Nat) (s : σ), I xs.length [] s → Q (L (n + 1) s (xs.length : Int)))
    (n : Nat) (s : σ) (hn : xs.length < n) (hI : I 0 xs s) : Q (L n s 0) := by
  have main : ∀ (k t n : Nat) (s : σ), t + k = xs.length → k < n → I t (xs.drop t) s → Q (L n s (t : Int)) := by
    intro k
    induction k with
    | zero =>
      intro t n s h1 h2 h3
      obtain ⟨m, rfl⟩ : ∃ m, n = m + 1 := ⟨n - 1, by omega⟩
      have : t = xs.length := by omega
      subst this
      rw [List.drop_length] at h3
      exact he m s h3
    | succ k ih =>
      intro t n s h1 h2 h3
      obtain ⟨m, rfl⟩ : ∃ m, n = m + 1 := ⟨n - 1, by omega⟩
      cases hd : xs.drop t with
      | nil => have := congrArg List.length hd; simp only [List.length_drop, List.length_nil] at this; omega
      | cons x rest =>
        obtain ⟨a, b, c⟩ := getD_drop (d := d) hd
        rw [hd] at h3
        refine hs m s t x rest a b c h3 fun s' hI' => ?_
        rw [← c] at hI'
        exact ih (t + 1) m s' (by omega) (by omega) hI'
  have := main xs.length 0 n s (by omega) hn (by simpa using hI)
  simpa using this

theorem countP' {σ ρ : Type} (lo hi : Int) (hle : lo ≤ hi) (L : Nat → σ → Int → Option ρ) (I : Int → σ → Prop) (Q : Option ρ → Prop)
    (hs : ∀ (n : Nat) (s : σ) (t : Int), lo ≤ t → t < hi → I t s → (∀ s', I (t + 1) s' → Q (L n s' (t + 1))) → Q (L (n + 1) s t))
    (he : ∀ (n : Nat) (s : σ), I hi s → Q (L (n + 1) s hi))
    (n : Nat) (s : σ) (hn : (hi - lo).toNat < n) (hI : I lo s) : Q (L n s lo) := by
  have main : ∀ (k n : Nat) (t : Int) (s : σ), lo ≤ t → t + k = hi → k < n → I t s → Q (L n s t) := by
    intro k
    induction k with
    | zero =>
      intro n t s h0 h1 h2 h3
      obtain ⟨m, rfl⟩ : ∃ m, n = m + 1 := ⟨n - 1, by omega⟩
      have : t = hi := by omega
      subst this; exact he m s h3
    | succ k ih =>
      intro n t s h0 h1 h2 h3
      obtain ⟨m, rfl⟩ : ∃ m, n = m + 1 := ⟨n - 1, by omega⟩
      exact hs m s t h0 (by omega) h3 fun s' h' => ih m (t + 1) s' (by omega) (by omega) (by omega) h'
  exact main (hi - lo).toNat n lo s (by omega) (by omega) hn hI

/-- Facts of a loop's head. -/
theorem ixA {t n : Nat} (h : t < n) : decide ((t : Int) < (n : Int)) = true := decide_eq_true (by omega)
theorem ixB {t n : Nat} (h : t < n) : decide (0 ≤ (t : Int) ∧ (t : Int) < (n : Int)) = true := decide_eq_true (by omega)
theorem ixE (n : Nat) : decide ((n : Int) < (n : Int)) = false := decide_eq_false (by omega)
theorem ixW {t n : Nat} (h : t < n) (hn : n ≤ 4611686018427387904) : w64 ((t : Int) + 1) = ((t + 1 : Nat) : Int) := w64_succ (by omega)
theorem w64_small {x : Int} (h : -4611686018427387904 ≤ x ∧ x ≤ 4611686018427387904) : w64 x = x := w64_eq (by omega) (by omega)

end Go.Proofs.Ytbblnbolabpfmaa

namespace Go.Proofs.Ytbblnbolabpfmaa
open Go.RowKit
set_option linter.unusedVariables false

abbrev Od := Int × Int × Unit
abbrev d3 : Od := (0, (0, ()))

/-! ### between -/
def B49 (lo n hi : Int) : Option Bool := some (decide (lo ≤ n ∧ n ≤ hi))
theorem KB49 : FnOk Try.prog 49 (F49 B49) := ok49 B49 fun lo n hi r h => ⟨0, by
  rw [← h]; simp only [m49, B49]
  by_cases a : lo ≤ n <;> simp [a]⟩
def B51 (n lo hi : Int) : Option Bool := some (decide (lo ≤ n ∧ n ≤ hi))
/-! ### the first one -/
def fx {α : Type} (p : α → Bool) : Int → List α → Int
  | _, [] => -1
  | t, x :: xs => cond (p x) t (fx p (t + 1) xs)
theorem fx_ge {α : Type} (p : α → Bool) : ∀ (xs : List α) (t : Int), 0 ≤ t → decide (fx p t xs ≥ 0) = xs.any p
  | [], t, h => rfl
  | x :: xs, t, h => by
    rw [fx, List.any_cons]
    cases e : p x with
    | true => simp [h]
    | false => rw [cond_false, fx_ge p xs (t + 1) (by omega)]; simp

/-- A day, or a fine, that is none. -/
def badO (o : Od) : Bool := !(decide (1 ≤ o.1 ∧ o.1 ≤ 30)) || !(decide (0 ≤ o.2.1 ∧ o.2.1 ≤ 10000))
def B59 (o : Od) : Option Bool := some (badO o)
theorem KB59 : FnOk Try.prog 59 (F59 B59) := ok59 B49 KB49 B59 fun o r h => ⟨0, by
  rw [← h]; simp only [m59, B59, B49, Option.bind_some, badO]
  cases decide (1 ≤ o.1 ∧ o.1 ≤ 30) <;> rfl⟩
def B65c59 (l : List Od) : Option Int := if l.length ≤ 1000 then some (fx badO 0 l) else none
theorem KB65c59 : FnOk Try.prog 65 (F65c59 B65c59) := ok65c59 B59 KB59 B65c59 fun s r h => ⟨1001, by
  simp only [B65c59] at h
  split at h
  · rename_i hl
    rw [← h, m65c59]
    exact rangeIx s d3 (fun n (_ : Unit) t => l65c59a B59 1001 s n t) (fun _ _ _ => True) (fun t xs _ => some (fx badO t xs))
      (fun n _ t x rest ht hx _ ih => by
        simp only [l65c59a, ixA ht, ixB ht, cond_true, chk_true, Int.toNat_natCast, ixW ht (by omega), hx, ih () trivial, fx, B59, Option.bind_some]
        cases badO x <;> rfl)
      (fun n _ _ => by simp only [l65c59a, ixE, cond_false]; rfl) 1001 () (by omega) trivial
  · cases h⟩
def B58c59 (l : List Od) : Option Bool := if l.length ≤ 1000 then some (l.any badO) else none
theorem KB58c59 : FnOk Try.prog 58 (F58c59 B58c59) := ok58c59 B65c59 KB65c59 B58c59 fun s r h => ⟨0, by
  simp only [B58c59] at h
  split at h
  · rename_i hl
    rw [← h, m58c59, B65c59, if_pos hl, Option.bind_some, fx_ge _ s 0 (by omega)]
  · cases h⟩

/-- The error of orders. -/
def ckO (l : List Od) : Int := cond (decide (l.length = 0)) 1 (cond (decide (12 < l.length)) 2 (cond (l.any badO) 4 0))
def B23 (l : List Od) : Option Int := if l.length ≤ 1000 then some (ckO l) else none
theorem KB23 : FnOk Try.prog 23 (F23 B23) := ok23 B58c59 KB58c59 B23 fun l r h => ⟨0, by
  simp only [B23] at h
  split at h
  · rename_i hl
    rw [← h, m23, B58c59, if_pos hl, Option.bind_some, ckO]
    have e1 : (((l.length : Int)) == 0) = decide (l.length = 0) := by
      by_cases q : l.length = 0
      · simp [q]
      · have : ((l.length : Int) == 0) = false := by simp; intro e; exact q (by simp [e])
        rw [this]; simp [q]
    have e2 : decide ((l.length : Int) > 12) = decide (12 < l.length) := by
      by_cases q : 12 < l.length
      · rw [decide_eq_true q]; exact decide_eq_true (by omega)
      · rw [decide_eq_false q]; exact decide_eq_false (by omega)
    rw [e1, e2]
    cases decide (l.length = 0) <;> cases decide (12 < l.length) <;> cases l.any badO <;> rfl
  · cases h⟩

/-- Orders that pass. -/
structure OkO (l : List Od) : Prop where
  pos : 0 < l.length
  len : l.length ≤ 12
  all : ∀ o ∈ l, (1 ≤ o.1 ∧ o.1 ≤ 30) ∧ 0 ≤ o.2.1 ∧ o.2.1 ≤ 10000

theorem ckO_ok {l : List Od} (h : ckO l = 0) : OkO l := by
  unfold ckO at h
  cases e1 : decide (l.length = 0) with
  | true => rw [e1] at h; cases h
  | false =>
    cases e2 : decide (12 < l.length) with
    | true => rw [e1, e2] at h; cases h
    | false =>
      cases e3 : l.any badO with
      | true => rw [e1, e2, e3] at h; cases h
      | false =>
        have e1 := of_decide_eq_false e1
        have e2 := of_decide_eq_false e2
        refine ⟨by omega, by omega, fun o ho => ?_⟩
        have := List.any_eq_false.1 e3 o ho
        simp only [badO, Bool.or_eq_true, Bool.not_eq_true', decide_eq_false_iff_not, not_or, Classical.not_not] at this
        exact ⟨this.1, this.2.1, this.2.2⟩

/-! ### the same orders -/
/-! ### equal lists -/
end Go.Proofs.Ytbblnbolabpfmaa

namespace Go.Proofs.Ytbblnbolabpfmaa
open Go.RowKit
set_option linter.unusedVariables false

/-! ### what days and fines are -/
def dyl (l : List Od) (i : Nat) : Nat := (l.getD i d3).1.toNat
def fnl (l : List Od) (i : Nat) : Int := (l.getD i d3).2.1
def mem (s : List Int) (i : Nat) : Bool := s.contains (i : Int)

/-- Numbers of orders, each once. -/
structure Ix (n : Nat) (s : List Int) : Prop where
  rng : ∀ i ∈ s, 0 ≤ i ∧ i < n
  nd : s.Nodup

theorem mem_cons (x : Nat) (s : List Int) (i : Nat) : mem ((x : Int) :: s) i = ins (mem s) x i := by
  simp only [mem, ins, List.contains_cons]
  by_cases h : i = x
  · subst h; simp
  · have h1 : ((i : Int) == (x : Int)) = false := by simp; omega
    have h2 : (i == x) = false := by simpa using h
    rw [h1, h2, Bool.false_or, Bool.or_false]

theorem cnt_mem {n : Nat} (r : Nat → Bool) : ∀ {s : List Int}, Ix n s → (s.filter fun i => r i.toNat).length = cnt (fun i => mem s i && r i) n
  | [], _ => by
    rw [cnt_zero fun i _ => by simp [mem]]; rfl
  | x :: s, h => by
    obtain ⟨h1, h2⟩ := List.nodup_cons.1 h.nd
    have hx := h.rng x (by simp)
    obtain ⟨k, rfl⟩ : ∃ k : Nat, x = k := ⟨x.toNat, by omega⟩
    have ih := cnt_mem r (s := s) ⟨fun i hi => h.rng i (List.mem_cons_of_mem _ hi), h2⟩
    have hk : k < n := by omega
    have hm : mem s k = false := by
      cases q : mem s k with
      | false => rfl
      | true => exact absurd (List.contains_iff_mem.1 q) h1
    rw [cnt_congr (q := fun i => ins (mem s) k i && r i) fun i _ => by rw [mem_cons], cnt_ins hk hm, ← ih, List.filter_cons]
    simp only [Int.toNat_natCast]
    by_cases hr : r k = true
    · simp [hr]
    · have hr : r k = false := by simpa using hr
      simp [hr]

theorem cnt_len {n : Nat} {s : List Int} (h : Ix n s) : s.length = cnt (mem s) n := by
  have h1 := cnt_mem (fun _ => true) h
  rw [List.filter_eq_self.2 fun _ _ => rfl] at h1
  rw [h1]; exact cnt_congr fun i _ => Bool.and_true _

/-! ### a sorted list's first overfull day -/
def fo : Nat → List Int → Int
  | _, [] => 0
  | k, d :: r => cond (decide (((k + 1 : Nat) : Int) > d)) d (fo (k + 1) r)

def cle (L : List Int) (d : Int) : Nat := (L.filter fun x => decide (x ≤ d)).length

theorem cle_cons (x : Int) (L : List Int) (d : Int) : cle (x :: L) d = (if x ≤ d then 1 else 0) + cle L d := by
  unfold cle
  by_cases h : x ≤ d
  · simp [h]; omega
  · simp [h]

theorem cle_pos {L : List Int} {d : Int} (h : 0 < cle L d) : ∃ x ∈ L, x ≤ d := by
  unfold cle at h
  obtain ⟨x, hx⟩ := List.exists_mem_of_length_pos h
  simp only [List.mem_filter, decide_eq_true_eq] at hx
  exact ⟨x, hx.1, hx.2⟩

theorem fo_zero : ∀ (L : List Int) (k : Nat), L.Pairwise (fun a b => decide (a ≤ b) = true) → (∀ x ∈ L, 1 ≤ x) → fo k L = 0 → ∀ d, 0 < cle L d → ((k + cle L d : Nat) : Int) ≤ d
  | [], k, _, _, _, d, h => by simp [cle] at h
  | x :: r, k, hs, h1, h0, d, h => by
    obtain ⟨s1, s2⟩ := List.pairwise_cons.1 hs
    have hx := h1 x (by simp)
    have hk : ¬ (((k + 1 : Nat) : Int) > x) := fun q => by
      rw [fo, decide_eq_true q, cond_true] at h0; omega
    rw [fo, decide_eq_false hk, cond_false] at h0
    have ih := fo_zero r (k + 1) s2 (fun y hy => h1 y (List.mem_cons_of_mem _ hy)) h0 d
    have hxd : x ≤ d := by
      obtain ⟨y, hy, hyd⟩ := cle_pos h
      rcases List.mem_cons.1 hy with rfl | hy
      · exact hyd
      · have := of_decide_eq_true (s1 y hy); omega
    rw [cle_cons, if_pos hxd]
    by_cases hc : 0 < cle r d
    · have := ih hc; omega
    · omega

theorem fo_pos : ∀ (L : List Int) (k : Nat) (v : Int), L.Pairwise (fun a b => decide (a ≤ b) = true) → (∀ x ∈ L, 1 ≤ x) → fo k L = v → v ≠ 0 → v ∈ L ∧ v < ((k + cle L v : Nat) : Int) ∧ ∀ d, d < v → 0 < cle L d → ((k + cle L d : Nat) : Int) ≤ d
  | [], k, v, _, _, h, h0 => absurd h.symm h0
  | x :: r, k, v, hs, h1, h, h0 => by
    obtain ⟨s1, s2⟩ := List.pairwise_cons.1 hs
    by_cases hk : ((k + 1 : Nat) : Int) > x
    · rw [fo, decide_eq_true hk, cond_true] at h
      subst h
      refine ⟨by simp, ?_, fun d hd hc => ?_⟩
      · rw [cle_cons, if_pos (Int.le_refl _)]; omega
      · obtain ⟨y, hy, hyd⟩ := cle_pos hc
        exfalso
        rcases List.mem_cons.1 hy with rfl | hy
        · omega
        · have := of_decide_eq_true (s1 y hy); omega
    · rw [fo, decide_eq_false hk, cond_false] at h
      obtain ⟨a, b, c⟩ := fo_pos r (k + 1) v s2 (fun y hy => h1 y (List.mem_cons_of_mem _ hy)) h h0
      have hxv : x ≤ v := of_decide_eq_true (s1 v a)
      refine ⟨List.mem_cons_of_mem _ a, ?_, fun d hd hc => ?_⟩
      · rw [cle_cons, if_pos hxv]; omega
      · rw [cle_cons] at hc ⊢
        by_cases hxd : x ≤ d
        · rw [if_pos hxd] at hc ⊢
          by_cases hc2 : 0 < cle r d
          · have := c d hd hc2; omega
          · omega
        · rw [if_neg hxd] at hc ⊢
          have := c d hd (by omega); omega

theorem cle_srt (L : List Int) (d : Int) : cle (srt L) d = cle L d := ((srt_perm L).filter _).length_eq

/-- The first day that is overfull for a set; 0: there is none. -/
def FO (dy : Nat → Nat) (n : Nat) (S : Nat → Bool) (v : Int) : Prop := (v = 0 ∧ Pos dy n S) ∨ ∃ d : Nat, v = d ∧ 1 ≤ d ∧ d < by_ dy n S d ∧ ∀ d', d' < d → by_ dy n S d' ≤ d'

theorem FO.uniq {dy : Nat → Nat} {n : Nat} {S : Nat → Bool} {v v' : Int} (h : FO dy n S v) (h' : FO dy n S v') : v = v' := by
  rcases h with ⟨h1, h2⟩ | ⟨d, h1, h2, h3, h4⟩ <;> rcases h' with ⟨g1, g2⟩ | ⟨d', g1, g2, g3, g4⟩
  · rw [h1, g1]
  · have := h2 d'; omega
  · have := g2 d; omega
  · rcases Nat.lt_trichotomy d d' with q | q | q
    · have := g4 d q; omega
    · rw [h1, g1, q]
    · have := h4 d' q; omega

theorem FO.zero {dy : Nat → Nat} {n : Nat} {S : Nat → Bool} {v : Int} (h : FO dy n S v) : v = 0 ↔ Pos dy n S := by
  rcases h with ⟨h1, h2⟩ | ⟨d, h1, h2, h3, h4⟩
  · exact ⟨fun _ => h2, fun _ => h1⟩
  · exact ⟨fun h => by omega, fun h => by have := h d; omega⟩

theorem FO.congr {dy : Nat → Nat} {n : Nat} {S T : Nat → Bool} {v : Int} (h : FO dy n S v) (hst : ∀ i, i < n → S i = T i) : FO dy n T v := by
  have e : ∀ d, by_ dy n T d = by_ dy n S d := fun d => cnt_congr fun i hi => by rw [hst i hi]
  rcases h with ⟨h1, h2⟩ | ⟨d, h1, h2, h3, h4⟩
  · exact .inl ⟨h1, fun d => by rw [e]; exact h2 d⟩
  · exact .inr ⟨d, h1, h2, by rw [e]; exact h3, fun d' hd => by rw [e]; exact h4 d' hd⟩

def daysOf (l : List Od) (s : List Int) : List Int := s.map fun i => (l.getD i.toNat d3).1

theorem cle_days {l : List Od} (h1 : ∀ o ∈ l, 1 ≤ o.1) {s : List Int} (hs : Ix l.length s) (d : Nat) : cle (daysOf l s) d = by_ (dyl l) l.length (mem s) d := by
  unfold by_
  rw [← cnt_mem _ hs]
  unfold cle daysOf
  rw [List.filter_map, List.length_map]
  congr 1
  apply List.filter_congr
  intro i hi
  have hr := hs.rng i hi
  have ho := h1 _ (List.getElem_mem (show i.toNat < l.length by omega))
  simp only [Function.comp, dyl, List.getD, List.getElem?_eq_getElem (show i.toNat < l.length by omega), Option.getD_some]
  congr 1
  exact propext ⟨fun h => by omega, fun h => by omega⟩

theorem fo_FO {l : List Od} (h1 : ∀ o ∈ l, 1 ≤ o.1) {s : List Int} (hs : Ix l.length s) : FO (dyl l) l.length (mem s) (fo 0 (srt (daysOf l s))) := by
  have hsrt := srt_sorted (daysOf l s)
  have hd1 : ∀ x ∈ srt (daysOf l s), 1 ≤ x := fun x hx => by
    have hx := (srt_perm _).mem_iff.1 hx
    obtain ⟨i, hi, rfl⟩ := List.mem_map.1 hx
    have hr := hs.rng i hi
    have ho := h1 _ (List.getElem_mem (show i.toNat < l.length by omega))
    simpa [List.getD, List.getElem?_eq_getElem (show i.toNat < l.length by omega)] using ho
  have hc : ∀ d : Nat, cle (srt (daysOf l s)) d = by_ (dyl l) l.length (mem s) d := fun d => by rw [cle_srt, cle_days h1 hs]
  by_cases h0 : fo 0 (srt (daysOf l s)) = 0
  · refine .inl ⟨h0, fun d => ?_⟩
    by_cases hp : 0 < by_ (dyl l) l.length (mem s) d
    · have := fo_zero _ 0 hsrt hd1 h0 d (by rw [hc]; exact hp)
      rw [hc] at this; omega
    · omega
  · obtain ⟨a, b, c⟩ := fo_pos _ 0 _ hsrt hd1 rfl h0
    have hv := hd1 _ a
    obtain ⟨d, hd⟩ : ∃ d : Nat, fo 0 (srt (daysOf l s)) = d := ⟨(fo 0 (srt (daysOf l s))).toNat, by omega⟩
    rw [hd] at b c hv
    refine .inr ⟨d, hd, by omega, by rw [hc] at b; omega, fun d' hd' => ?_⟩
    by_cases hp : 0 < by_ (dyl l) l.length (mem s) d'
    · have := c d' (by omega) (by rw [hc]; exact hp)
      rw [hc] at this; omega
    · omega

/-! ### press.overfull -/
def B50 (l : List Od) (s : List Int) : Option Int :=
  if l.length ≤ 1000 ∧ s.length ≤ 1000 ∧ ∀ i ∈ s, 0 ≤ i ∧ i < (l.length : Int) then some (fo 0 (srt (daysOf l s))) else none

theorem mkOk_of {a b : Int} {k : Nat} (h0 : 0 ≤ a) (h1 : a ≤ b) (h2 : b * (k : Int) ≤ 140737488355328) (h3 : b ≤ 140737488355328) : mkOk a b k = true := by
  simp only [mkOk, Bool.and_eq_true, decide_eq_true_eq]
  refine ⟨?_, ?_⟩ <;> omega

theorem fo_loop (r1 : List Int) (hl : r1.length ≤ 1000) (N : Nat) (hN : 1001 ≤ N) : l50b A70 N r1 N 0 = some (fo 0 r1) :=
  rangeIx r1 0 (fun n (_ : Unit) t => l50b A70 N r1 n t) (fun _ _ _ => True) (fun t xs _ => some (fo t xs))
    (fun n _ t x rest ht hx _ ih => by
      simp only [l50b, ixA ht, ixB ht, cond_true, chk_true, Int.toNat_natCast, ixW ht (by omega), hx, ih () trivial, fo]
      cases decide (((t + 1 : Nat) : Int) > x) <;> rfl)
    (fun n _ _ => by simp only [l50b, ixE, cond_false]; rfl) N () (by omega) trivial

theorem KB50 : FnOk Try.prog 50 (F50 B50) := ok50 A70 ok70 B50 fun l s r h => ⟨1001, by
  simp only [B50] at h
  split at h
  · rename_i hh
    obtain ⟨hl, hs, hr⟩ := hh
    rw [← h, m50, mkOk_of (by omega) (by omega) (by omega) (by omega), chk_true]
    have := rangeInv s 0 (fun n (days : List Int) t => l50a A70 1001 l s n t days) (fun xs days => days.length + xs.length ≤ 1000 ∧ ∀ i ∈ xs, 0 ≤ i ∧ i < (l.length : Int)) (fun xs days => some (fo 0 (srt (days ++ daysOf l xs))))
      (fun n days t x rest ht hx hI ih => by
        obtain ⟨h1, h2⟩ := hI
        simp only [List.length_cons] at h1
        have hxr := h2 x (by simp)
        have hsm : small (days.length + 1) 8 = true := small_of (by omega) (by decide)
        have hix : decide (0 ≤ x ∧ x < (l.length : Int)) = true := decide_eq_true hxr
        simp only [l50a, ixA ht, ixB ht, cond_true, chk_true, Int.toNat_natCast, ixW ht (by omega), hx, hsm, hix]
        rw [ih _ ⟨by simp; omega, fun i hi => h2 i (List.mem_cons_of_mem _ hi)⟩]
        simp [daysOf])
      (fun n days hI => by
        have h1 := hI.1
        simp only [List.length_nil, Nat.add_zero] at h1
        simp only [l50a, ixE, cond_false]
        rw [A70, if_pos (by omega), Option.bind_some, fo_loop _ (by rw [(srt_perm days).length_eq]; exact h1) 1001 (by omega)]
        simp [daysOf]) 1001 [] (by omega) ⟨by simpa using hs, hr⟩
    simpa using this
  · cases h⟩

end Go.Proofs.Ytbblnbolabpfmaa

namespace Go.Proofs.Ytbblnbolabpfmaa
open Go.RowKit
set_option linter.unusedVariables false

/-! ### compare -/
def cmpI (x y : Int) : Int := cond (decide (x < y)) (-1) (cond (decide (x > y)) 1 0)
theorem cmpI_lt (x y : Int) : decide (cmpI x y < 0) = decide (x < y) := by
  unfold cmpI
  by_cases h : x < y
  · simp [h]
  · by_cases g : x > y <;> simp [h, g]
def B80 (x : Int) : Option Bool := some false
theorem KB80 : FnOk Try.prog 80 (F80 B80) := ok80 B80 fun x r h => ⟨0, by rw [← h]; simp [m80, B80]⟩
def B62 (x y : Int) : Option Int := some (cmpI x y)
theorem KB62 : FnOk Try.prog 62 (F62 B62) := ok62 B80 KB80 B62 fun x y r h => ⟨0, by
  rw [← h]; simp only [m62, B80, B62, Option.bind_some, cond_false, cmpI]
  cases decide (x < y) <;> cases decide (x > y) <;> rfl⟩
def B72 (a b : Od) : Option Int := some (cmpI a.2.1 b.2.1)
theorem KB72 : FnOk Try.prog 72 (F72 B72) := ok72 B62 KB62 B72 fun a b r h => ⟨0, by rw [← h]; rfl⟩

def inR (l : List Od) (i : Int) : Bool := decide (0 ≤ i ∧ i < (l.length : Int))
def B78 (a b : Int) (l : List Od) : Option (Int × List Od) := cond (inR l a && inR l b) (some (cmpI (l.getD b.toNat d3).2.1 (l.getD a.toNat d3).2.1, l)) none
theorem KB78 : FnOk Try.prog 78 (F78c B78) := ok78c B62 KB62 B78 fun a b l r h => ⟨0, by
  rw [← h]; unfold B78 at h ⊢
  cases e1 : inR l a with
  | false => rw [e1] at h; cases h
  | true =>
    cases e2 : inR l b with
    | false => rw [e1, e2] at h; cases h
    | true =>
      unfold inR at e1 e2
      simp only [m78c, e1, e2, chk_true, B62, Option.bind_some, Bool.and_true, cond_true]⟩
def B61 (a b : Int) (l : List Od) : Option (Int × List Od) := cond (inR l a && inR l b) (some (cmpI (l.getD a.toNat d3).1 (l.getD b.toNat d3).1, l)) none
theorem KB61 : FnOk Try.prog 61 (F61c B61) := ok61c B62 KB62 B61 fun a b l r h => ⟨0, by
  rw [← h]; unfold B61 at h ⊢
  cases e1 : inR l a with
  | false => rw [e1] at h; cases h
  | true =>
    cases e2 : inR l b with
    | false => rw [e1, e2] at h; cases h
    | true =>
      unfold inR at e1 e2
      simp only [m61c, e1, e2, chk_true, B62, Option.bind_some, Bool.and_true, cond_true]⟩

/-! ### insertion sort -/
/-- From the right: past all that it is less than. (The list is turned round.) -/
def insRev (lt : Int → Int → Bool) (x : Int) : List Int → List Int
  | [] => [x]
  | y :: r => cond (lt x y) (y :: insRev lt x r) (x :: y :: r)
def isortR (lt : Int → Int → Bool) (L : List Int) : List Int := (L.foldl (fun P x => insRev lt x P) []).reverse

theorem insRev_perm (lt : Int → Int → Bool) (x : Int) : ∀ P, (insRev lt x P).Perm (x :: P)
  | [] => .refl _
  | y :: r => by
    simp only [insRev]
    cases lt x y with
    | true => exact ((insRev_perm lt x r).cons y).trans (.swap x y r)
    | false => exact .refl _

theorem isort_fold_perm (lt : Int → Int → Bool) : ∀ (L P : List Int), (L.foldl (fun P x => insRev lt x P) P).Perm (L ++ P)
  | [], P => .refl _
  | x :: L, P => by
    simp only [List.foldl_cons, List.cons_append]
    refine (isort_fold_perm lt L _).trans ?_
    exact ((insRev_perm lt x P).append_left L).trans List.perm_middle

theorem isortR_perm (lt : Int → Int → Bool) (L : List Int) : (isortR lt L).Perm L := by
  unfold isortR
  exact (List.reverse_perm _).trans (by simpa using isort_fold_perm lt L [])

theorem getD_mid {α : Type} (A : List α) (x d : α) (C : List α) : (A ++ x :: C).getD A.length d = x := by simp [List.getD]
theorem getD_mid1 {α : Type} (A : List α) (x y d : α) (C : List α) : (A ++ x :: y :: C).getD (A.length + 1) d = y := by simp [List.getD]
theorem set_mid2 {α : Type} (A : List α) (x y : α) (C : List α) : (((A ++ x :: y :: C).set (A.length + 1) x).set A.length y) = A ++ y :: x :: C := by
  simp

/-- What an order of two numbers answers. -/
structure CmpOk (cmp : Int → Int → List Od → Option (Int × List Od)) (lt : Int → Int → Bool) (l : List Od) : Prop where
  ok : ∀ a b, inR l a = true → inR l b = true → ∃ v, cmp a b l = some (v, l) ∧ decide (v < 0) = lt a b

theorem cmp78 (l : List Od) : CmpOk B78 (fun a b => decide ((l.getD b.toNat d3).2.1 < (l.getD a.toNat d3).2.1)) l := ⟨fun a b h1 h2 => ⟨_, by unfold B78; rw [h1, h2]; rfl, cmpI_lt _ _⟩⟩
theorem cmp61 (l : List Od) : CmpOk B61 (fun a b => decide ((l.getD a.toNat d3).1 < (l.getD b.toNat d3).1)) l := ⟨fun a b h1 h2 => ⟨_, by unfold B61; rw [h1, h2]; rfl, cmpI_lt _ _⟩⟩

def lt78 (l : List Od) (a b : Int) : Bool := decide ((l.getD b.toNat d3).2.1 < (l.getD a.toNat d3).2.1)
def lt61 (l : List Od) (a b : Int) : Bool := decide ((l.getD a.toNat d3).1 < (l.getD b.toNat d3).1)

def B86 (lt : List Od → Int → Int → Bool) (a b : Int) (L : List Int) (l : List Od) : Option (List Int × List Od) :=
  if a = 0 ∧ b = (L.length : Int) ∧ L.length ≤ 1000 ∧ ∀ i ∈ L, inR l i = true then some (isortR (lt l) L, l) else none

/-- The inner loop. -/
theorem in78 {l : List Od} {N : Nat} {b i : Int} {rec : Int → List Int → List Od → Option (List Int × List Od)} {x : Int} (hx : inR l x = true) : ∀ (A Bs C : List Int) (n : Nat), (∀ y ∈ A, inR l y = true) → A.length < n → A.length + Bs.length + C.length ≤ 1000 →
    l86c78b B78 N 0 b i rec n (A.length : Int) (A.reverse ++ x :: (Bs.reverse ++ C)) l = rec (w64 (i + 1)) ((Bs ++ insRev (lt78 l) x A).reverse ++ C) l
  | [], Bs, C, n, _, hn, _ => by
    obtain ⟨m, rfl⟩ : ∃ m, n = m + 1 := ⟨n - 1, by omega⟩
    simp [l86c78b, insRev]
  | y :: A, Bs, C, n, hA, hn, hlen => by
    obtain ⟨m, rfl⟩ : ∃ m, n = m + 1 := ⟨n - 1, by omega⟩
    simp only [List.length_cons] at hn hlen
    have hy := hA y (by simp)
    have ih := in78 hx (N := N) (b := b) (i := i) (rec := rec) A (Bs ++ [y]) C m (fun z hz => hA z (List.mem_cons_of_mem _ hz)) (by omega) (by simp only [List.length_append, List.length_cons, List.length_nil]; omega)
    obtain ⟨v, hv1, hv2⟩ := (cmp78 l).ok x y hx hy
    have hL : (y :: A).reverse ++ x :: (Bs.reverse ++ C) = A.reverse ++ y :: x :: (Bs.reverse ++ C) := by simp
    have e0 : w64 (((A.length + 1 : Nat) : Int) - 1) = (A.length : Int) := by rw [w64_small (by omega)]; omega
    have hlen2 : (A.reverse ++ y :: x :: (Bs.reverse ++ C)).length = A.length + 2 + (Bs.length + C.length) := by simp; omega
    have g1 : (A.reverse ++ y :: x :: (Bs.reverse ++ C)).getD (A.length + 1) 0 = x := by have := getD_mid1 A.reverse y x 0 (Bs.reverse ++ C); rwa [List.length_reverse] at this
    have g0 : (A.reverse ++ y :: x :: (Bs.reverse ++ C)).getD A.length 0 = y := by have := getD_mid A.reverse y 0 (x :: (Bs.reverse ++ C)); rwa [List.length_reverse] at this
    have s2 : (((A.reverse ++ y :: x :: (Bs.reverse ++ C)).set (A.length + 1) y).set A.length x) = A.reverse ++ x :: y :: (Bs.reverse ++ C) := by have := set_mid2 A.reverse y x (Bs.reverse ++ C); rwa [List.length_reverse] at this
    have hgt : decide (((A.length + 1 : Nat) : Int) > 0) = true := decide_eq_true (by omega)
    rw [hL]
    simp only [List.length_cons, l86c78b, hgt, cond_true, e0, Int.toNat_natCast, g1, g0, ixB (show A.length + 1 < (A.reverse ++ y :: x :: (Bs.reverse ++ C)).length by omega), ixB (show A.length < (A.reverse ++ y :: x :: (Bs.reverse ++ C)).length by omega), chk_true, hv1, Option.bind_some, hv2, List.length_set, s2]
    show cond (lt78 l x y) _ _ = _
    have hq : insRev (lt78 l) x (y :: A) = cond (lt78 l x y) (y :: insRev (lt78 l) x A) (x :: y :: A) := rfl
    cases hc : lt78 l x y with
    | true =>
      rw [hq, hc, cond_true, cond_true]
      have : A.reverse ++ x :: y :: (Bs.reverse ++ C) = A.reverse ++ x :: ((Bs ++ [y]).reverse ++ C) := by simp
      rw [this, ih]; simp
    | false => rw [hq, hc, cond_false, cond_false]; simp

theorem in61 {l : List Od} {N : Nat} {b i : Int} {rec : Int → List Int → List Od → Option (List Int × List Od)} {x : Int} (hx : inR l x = true) : ∀ (A Bs C : List Int) (n : Nat), (∀ y ∈ A, inR l y = true) → A.length < n → A.length + Bs.length + C.length ≤ 1000 →
    l86c61b B61 N 0 b i rec n (A.length : Int) (A.reverse ++ x :: (Bs.reverse ++ C)) l = rec (w64 (i + 1)) ((Bs ++ insRev (lt61 l) x A).reverse ++ C) l
  | [], Bs, C, n, _, hn, _ => by
    obtain ⟨m, rfl⟩ : ∃ m, n = m + 1 := ⟨n - 1, by omega⟩
    simp [l86c61b, insRev]
  | y :: A, Bs, C, n, hA, hn, hlen => by
    obtain ⟨m, rfl⟩ : ∃ m, n = m + 1 := ⟨n - 1, by omega⟩
    simp only [List.length_cons] at hn hlen
    have hy := hA y (by simp)
    have ih := in61 hx (N := N) (b := b) (i := i) (rec := rec) A (Bs ++ [y]) C m (fun z hz => hA z (List.mem_cons_of_mem _ hz)) (by omega) (by simp only [List.length_append, List.length_cons, List.length_nil]; omega)
    obtain ⟨v, hv1, hv2⟩ := (cmp61 l).ok x y hx hy
    have hL : (y :: A).reverse ++ x :: (Bs.reverse ++ C) = A.reverse ++ y :: x :: (Bs.reverse ++ C) := by simp
    have e0 : w64 (((A.length + 1 : Nat) : Int) - 1) = (A.length : Int) := by rw [w64_small (by omega)]; omega
    have hlen2 : (A.reverse ++ y :: x :: (Bs.reverse ++ C)).length = A.length + 2 + (Bs.length + C.length) := by simp; omega
    have g1 : (A.reverse ++ y :: x :: (Bs.reverse ++ C)).getD (A.length + 1) 0 = x := by have := getD_mid1 A.reverse y x 0 (Bs.reverse ++ C); rwa [List.length_reverse] at this
    have g0 : (A.reverse ++ y :: x :: (Bs.reverse ++ C)).getD A.length 0 = y := by have := getD_mid A.reverse y 0 (x :: (Bs.reverse ++ C)); rwa [List.length_reverse] at this
    have s2 : (((A.reverse ++ y :: x :: (Bs.reverse ++ C)).set (A.length + 1) y).set A.length x) = A.reverse ++ x :: y :: (Bs.reverse ++ C) := by have := set_mid2 A.reverse y x (Bs.reverse ++ C); rwa [List.length_reverse] at this
    have hgt : decide (((A.length + 1 : Nat) : Int) > 0) = true := decide_eq_true (by omega)
    rw [hL]
    simp only [List.length_cons, l86c61b, hgt, cond_true, e0, Int.toNat_natCast, g1, g0, ixB (show A.length + 1 < (A.reverse ++ y :: x :: (Bs.reverse ++ C)).length by omega), ixB (show A.length < (A.reverse ++ y :: x :: (Bs.reverse ++ C)).length by omega), chk_true, hv1, Option.bind_some, hv2, List.length_set, s2]
    show cond (lt61 l x y) _ _ = _
    have hq : insRev (lt61 l) x (y :: A) = cond (lt61 l x y) (y :: insRev (lt61 l) x A) (x :: y :: A) := rfl
    cases hc : lt61 l x y with
    | true =>
      rw [hq, hc, cond_true, cond_true]
      have : A.reverse ++ x :: y :: (Bs.reverse ++ C) = A.reverse ++ x :: ((Bs ++ [y]).reverse ++ C) := by simp
      rw [this, ih]; simp
    | false => rw [hq, hc, cond_false, cond_false]; simp

theorem out78 {l : List Od} {N : Nat} (hN : 1002 ≤ N) : ∀ (rest P : List Int) (n : Nat), (∀ y ∈ P, inR l y = true) → (∀ y ∈ rest, inR l y = true) → rest.length < n → P.length + rest.length ≤ 1000 →
    l86c78a B78 N 0 ((P.length + rest.length : Nat) : Int) n (P.length : Int) (P.reverse ++ rest) l = some ((rest.foldl (fun P x => insRev (lt78 l) x P) P).reverse, l)
  | [], P, n, _, _, hn, _ => by
    obtain ⟨m, rfl⟩ : ∃ m, n = m + 1 := ⟨n - 1, by omega⟩
    simp [l86c78a]
  | x :: rest, P, n, hP, hR, hn, hlen => by
    obtain ⟨m, rfl⟩ : ∃ m, n = m + 1 := ⟨n - 1, by omega⟩
    simp only [List.length_cons] at hn hlen ⊢
    have hlt : decide ((P.length : Int) < ((P.length + (rest.length + 1) : Nat) : Int)) = true := decide_eq_true (by omega)
    simp only [l86c78a, hlt, cond_true]
    have h1 := in78 (l := l) (N := N) (b := ((P.length + (rest.length + 1) : Nat) : Int)) (i := (P.length : Int)) (rec := fun y0 y1 y2 => l86c78a B78 N 0 ((P.length + (rest.length + 1) : Nat) : Int) m y0 y1 y2) (x := x) (hR x (by simp)) P [] rest N hP (by omega) (by simp; omega)
    simp only [List.reverse_nil, List.nil_append] at h1
    rw [h1, w64_succ (by omega)]
    have hpl : (insRev (lt78 l) x P).length = P.length + 1 := by rw [(insRev_perm _ x P).length_eq]; rfl
    have ih := out78 hN rest (insRev (lt78 l) x P) m (fun y hy => by
      rcases List.mem_cons.1 ((insRev_perm (lt78 l) x P).mem_iff.1 hy) with rfl | h
      · exact hR _ (by simp)
      · exact hP y h) (fun y hy => hR y (List.mem_cons_of_mem _ hy)) (by omega) (by omega)
    rw [hpl] at ih
    rw [show P.length + (rest.length + 1) = P.length + 1 + rest.length by omega]
    exact ih

theorem out61 {l : List Od} {N : Nat} (hN : 1002 ≤ N) : ∀ (rest P : List Int) (n : Nat), (∀ y ∈ P, inR l y = true) → (∀ y ∈ rest, inR l y = true) → rest.length < n → P.length + rest.length ≤ 1000 →
    l86c61a B61 N 0 ((P.length + rest.length : Nat) : Int) n (P.length : Int) (P.reverse ++ rest) l = some ((rest.foldl (fun P x => insRev (lt61 l) x P) P).reverse, l)
  | [], P, n, _, _, hn, _ => by
    obtain ⟨m, rfl⟩ : ∃ m, n = m + 1 := ⟨n - 1, by omega⟩
    simp [l86c61a]
  | x :: rest, P, n, hP, hR, hn, hlen => by
    obtain ⟨m, rfl⟩ : ∃ m, n = m + 1 := ⟨n - 1, by omega⟩
    simp only [List.length_cons] at hn hlen ⊢
    have hlt : decide ((P.length : Int) < ((P.length + (rest.length + 1) : Nat) : Int)) = true := decide_eq_true (by omega)
    simp only [l86c61a, hlt, cond_true]
    have h1 := in61 (l := l) (N := N) (b := ((P.length + (rest.length + 1) : Nat) : Int)) (i := (P.length : Int)) (rec := fun y0 y1 y2 => l86c61a B61 N 0 ((P.length + (rest.length + 1) : Nat) : Int) m y0 y1 y2) (x := x) (hR x (by simp)) P [] rest N hP (by omega) (by simp; omega)
    simp only [List.reverse_nil, List.nil_append] at h1
    rw [h1, w64_succ (by omega)]
    have hpl : (insRev (lt61 l) x P).length = P.length + 1 := by rw [(insRev_perm _ x P).length_eq]; rfl
    have ih := out61 hN rest (insRev (lt61 l) x P) m (fun y hy => by
      rcases List.mem_cons.1 ((insRev_perm (lt61 l) x P).mem_iff.1 hy) with rfl | h
      · exact hR _ (by simp)
      · exact hP y h) (fun y hy => hR y (List.mem_cons_of_mem _ hy)) (by omega) (by omega)
    rw [hpl] at ih
    rw [show P.length + (rest.length + 1) = P.length + 1 + rest.length by omega]
    exact ih

theorem start0 (lt : List Od → Int → Int → Bool) (l : List Od) (x : Int) (r : List Int) : isortR (lt l) (x :: r) = (r.foldl (fun P x => insRev (lt l) x P) [x]).reverse := rfl

theorem KB86c78 : FnOk Try.prog 86 (F86c78 (B86 lt78)) := ok86c78 B78 KB78 (B86 lt78) fun a b L l r h => ⟨1002, by
  simp only [B86] at h
  split at h
  · rename_i hh
    obtain ⟨rfl, rfl, hl, hr⟩ := hh
    rw [← h, m86c78]
    cases L with
    | nil => rfl
    | cons x rest =>
      have := out78 (l := l) (N := 1002) (by omega) rest [x] 1002 (fun y hy => by rcases List.mem_singleton.1 hy with rfl; exact hr _ (by simp)) (fun y hy => hr y (List.mem_cons_of_mem _ hy)) (by simp only [List.length_cons] at hl; omega) (by simp only [List.length_cons, List.length_nil] at hl ⊢; omega)
      rw [start0 lt78, ← this]
      have e : w64 (0 + 1) = ((([x] : List Int).length : Nat) : Int) := by rw [w64_small (by omega)]; rfl
      rw [e]
      congr 1
      simp; omega
  · cases h⟩

theorem KB86c61 : FnOk Try.prog 86 (F86c61 (B86 lt61)) := ok86c61 B61 KB61 (B86 lt61) fun a b L l r h => ⟨1002, by
  simp only [B86] at h
  split at h
  · rename_i hh
    obtain ⟨rfl, rfl, hl, hr⟩ := hh
    rw [← h, m86c61]
    cases L with
    | nil => rfl
    | cons x rest =>
      have := out61 (l := l) (N := 1002) (by omega) rest [x] 1002 (fun y hy => by rcases List.mem_singleton.1 hy with rfl; exact hr _ (by simp)) (fun y hy => hr y (List.mem_cons_of_mem _ hy)) (by simp only [List.length_cons] at hl; omega) (by simp only [List.length_cons, List.length_nil] at hl ⊢; omega)
      rw [start0 lt61, ← this]
      have e : w64 (0 + 1) = ((([x] : List Int).length : Nat) : Int) := by rw [w64_small (by omega)]; rfl
      rw [e]
      congr 1
      simp; omega
  · cases h⟩

def B60 (lt : List Od → Int → Int → Bool) (L : List Int) (l : List Od) : Option (List Int × List Od) :=
  if L.length < 20 ∧ ∀ i ∈ L, inR l i = true then some (isortR (lt l) L, l) else none
def B79 (lt : List Od → Int → Int → Bool) (n : Int) (L : List Int) (l : List Od) : Option (List Int × List Od) :=
  if n = (L.length : Int) then B60 lt L l else none

theorem KB79c78 : FnOk Try.prog 79 (F79c78 (B79 lt78)) := ok79c78 (B86 lt78) A87c78 KB86c78 K87c78 (B79 lt78) fun n L l r h => ⟨1, by
  simp only [B79] at h
  split at h
  · rename_i hn
    subst hn
    simp only [B60] at h
    split at h
    · rename_i hh
      have h1 : decide ((20 : Int) ≤ (L.length : Int)) = false := decide_eq_false (by omega)
      have h2 : decide ((20 : Int) < (L.length : Int)) = false := decide_eq_false (by omega)
      have h3 : B86 lt78 0 (L.length : Int) L l = some (isortR (lt78 l) L, l) := if_pos ⟨rfl, rfl, by omega, hh.2⟩
      simp only [m79c78, l79c78a, h1, cond_false, h3, Option.bind_some, l79c78b, h2]
      exact h
    · cases h
  · cases h⟩
theorem KB79c61 : FnOk Try.prog 79 (F79c61 (B79 lt61)) := ok79c61 (B86 lt61) A87c61 KB86c61 K87c61 (B79 lt61) fun n L l r h => ⟨1, by
  simp only [B79] at h
  split at h
  · rename_i hn
    subst hn
    simp only [B60] at h
    split at h
    · rename_i hh
      have h1 : decide ((20 : Int) ≤ (L.length : Int)) = false := decide_eq_false (by omega)
      have h2 : decide ((20 : Int) < (L.length : Int)) = false := decide_eq_false (by omega)
      have h3 : B86 lt61 0 (L.length : Int) L l = some (isortR (lt61 l) L, l) := if_pos ⟨rfl, rfl, by omega, hh.2⟩
      simp only [m79c61, l79c61a, h1, cond_false, h3, Option.bind_some, l79c61b, h2]
      exact h
    · cases h
  · cases h⟩
theorem KB60c78 : FnOk Try.prog 60 (F60c78 (B60 lt78)) := ok60c78 (B79 lt78) KB79c78 (B60 lt78) fun L l r h => ⟨0, by
  rw [m60c78, B79, if_pos rfl, h]; rfl⟩
theorem KB60c61 : FnOk Try.prog 60 (F60c61 (B60 lt61)) := ok60c61 (B79 lt61) KB79c61 (B60 lt61) fun L l r h => ⟨0, by
  rw [m60c61, B79, if_pos rfl, h]; rfl⟩

end Go.Proofs.Ytbblnbolabpfmaa

namespace Go.Proofs.Ytbblnbolabpfmaa
open Go.RowKit
set_option linter.unusedVariables false

/-! ### what is sorted -/
theorem insRev_pw {R : Int → Int → Prop} (tr : ∀ a b c, R a b → R b c → R a c) {lt : Int → Int → Bool} {x : Int} : ∀ {P : List Int}, (∀ y ∈ P, lt x y = true → R x y) → (∀ y ∈ P, lt x y = false → R y x) → P.Pairwise (fun a b => R b a) → (insRev lt x P).Pairwise (fun a b => R b a)
  | [], _, _, _ => by simp [insRev]
  | y :: r, h1, h2, hp => by
    obtain ⟨p1, p2⟩ := List.pairwise_cons.1 hp
    rw [insRev]
    cases hc : lt x y with
    | true =>
      rw [cond_true]
      refine List.pairwise_cons.2 ⟨fun z hz => ?_, insRev_pw tr (fun z hz => h1 z (List.mem_cons_of_mem _ hz)) (fun z hz => h2 z (List.mem_cons_of_mem _ hz)) p2⟩
      rcases List.mem_cons.1 ((insRev_perm lt x r).mem_iff.1 hz) with rfl | hz
      · exact h1 y (by simp) hc
      · exact p1 z hz
    | false =>
      rw [cond_false]
      have hyx := h2 y (by simp) hc
      refine List.pairwise_cons.2 ⟨fun z hz => ?_, hp⟩
      rcases List.mem_cons.1 hz with rfl | hz
      · exact hyx
      · exact tr _ _ _ (p1 z hz) hyx

theorem isort_fold_pw {R : Int → Int → Prop} (tr : ∀ a b c, R a b → R b c → R a c) {lt : Int → Int → Bool} : ∀ (L P : List Int), L.Pairwise (fun y x => (lt x y = true → R x y) ∧ (lt x y = false → R y x)) → (∀ y ∈ P, ∀ x ∈ L, (lt x y = true → R x y) ∧ (lt x y = false → R y x)) → P.Pairwise (fun a b => R b a) → (L.foldl (fun P x => insRev lt x P) P).Pairwise (fun a b => R b a)
  | [], P, _, _, hp => hp
  | x :: L, P, hL, hPL, hp => by
    obtain ⟨l1, l2⟩ := List.pairwise_cons.1 hL
    refine isort_fold_pw tr L _ l2 (fun y hy z hz => ?_) (insRev_pw tr (fun y hy => (hPL y hy x (by simp)).1) (fun y hy => (hPL y hy x (by simp)).2) hp)
    rcases List.mem_cons.1 ((insRev_perm lt x P).mem_iff.1 hy) with rfl | hy
    · exact l1 z hz
    · exact hPL y hy z (List.mem_cons_of_mem _ hz)

theorem isortR_pw {R : Int → Int → Prop} (tr : ∀ a b c, R a b → R b c → R a c) {lt : Int → Int → Bool} {L : List Int} (hL : L.Pairwise (fun y x => (lt x y = true → R x y) ∧ (lt x y = false → R y x))) : (isortR lt L).Pairwise R := by
  unfold isortR
  exact List.pairwise_reverse.2 (isort_fold_pw tr L [] hL (fun _ h => by cases h) .nil)

def ixs (n : Nat) : List Int := (List.range n).map Int.ofNat
theorem ixs_len (n : Nat) : (ixs n).length = n := by simp [ixs]
theorem ixs_succ (n : Nat) : ixs (n + 1) = ixs n ++ [(n : Int)] := by simp [ixs, List.range_succ]
theorem ixs_mem {n : Nat} {i : Int} : i ∈ ixs n ↔ 0 ≤ i ∧ i < n := by
  simp only [ixs, List.mem_map, List.mem_range]
  constructor
  · rintro ⟨k, hk, rfl⟩; exact ⟨Int.natCast_nonneg k, by show (k : Int) < n; omega⟩
  · intro h; exact ⟨i.toNat, by omega, by show ((i.toNat : Nat) : Int) = i; omega⟩
theorem ixs_lt (n : Nat) : (ixs n).Pairwise (· < ·) := by
  unfold ixs
  exact List.pairwise_map.2 (List.pairwise_lt_range.imp fun h => Int.ofNat_lt.2 h)
theorem ixs_nodup (n : Nat) : (ixs n).Nodup := (ixs_lt n).imp fun h => by omega

/-- By falling fines. -/
def byFine (l : List Od) : List Int := isortR (lt78 l) (ixs l.length)

theorem bef_trans {f : Nat → Int} {a b c : Nat} (h1 : bef f a b = true) (h2 : bef f b c = true) : bef f a c = true := by
  simp only [bef, Bool.or_eq_true, Bool.and_eq_true, decide_eq_true_eq] at *
  omega

theorem byFine_pw (l : List Od) : (byFine l).Pairwise fun a b => bef (fnl l) a.toNat b.toNat = true := by
  refine isortR_pw (R := fun a b => bef (fnl l) a.toNat b.toNat = true) (fun a b c => bef_trans) ?_
  refine (List.Pairwise.and_mem.1 (ixs_lt l.length)).imp fun {y x} h => ?_
  obtain ⟨hy, hx, hlt⟩ := h
  have hy := ixs_mem.1 hy
  have hx := ixs_mem.1 hx
  constructor
  · intro h
    have h : (l.getD y.toNat d3).2.1 < (l.getD x.toNat d3).2.1 := of_decide_eq_true h
    have : decide (fnl l y.toNat < fnl l x.toNat) = true := decide_eq_true h
    simp [bef, this]
  · intro h
    have h : ¬ (l.getD y.toNat d3).2.1 < (l.getD x.toNat d3).2.1 := of_decide_eq_false h
    show bef (fnl l) y.toNat x.toNat = true
    by_cases q : (l.getD x.toNat d3).2.1 < (l.getD y.toNat d3).2.1
    · have : decide (fnl l x.toNat < fnl l y.toNat) = true := decide_eq_true q
      simp [bef, this]
    · have h1 : decide (fnl l y.toNat = fnl l x.toNat) = true := decide_eq_true (by show (l.getD y.toNat d3).2.1 = (l.getD x.toNat d3).2.1; omega)
      have h2 : decide (y.toNat < x.toNat) = true := decide_eq_true (by omega)
      rw [bef, h1, h2, Bool.and_true, Bool.or_true]

theorem byFine_mem {l : List Od} {i : Int} : i ∈ byFine l ↔ 0 ≤ i ∧ i < l.length := by
  rw [← ixs_mem]; exact (isortR_perm _ _).mem_iff
theorem byFine_nodup (l : List Od) : (byFine l).Nodup := (isortR_perm _ _).nodup_iff.2 (ixs_nodup _)

/-! ### the greedy set -/
def grd (l : List Od) : List Int → List Int → List Int
  | [], s => s
  | i :: r, s => cond (s.contains i) (grd l r s) (cond (fo 0 (srt (daysOf l (s ++ [i]))) == 0) (grd l r (s ++ [i])) (grd l r s))
def greedy (l : List Od) (s : List Int) : List Int := srt (grd l (byFine l) s)

theorem mem_app (s : List Int) (x i : Nat) : mem (s ++ [(x : Int)]) i = ins (mem s) x i := by
  simp only [mem, ins, List.contains_append]
  by_cases h : i = x
  · subst h; simp
  · have h2 : (i == x) = false := by simpa using h
    have h3 : ((i : Int) == (x : Int)) = false := by simp; omega
    have h4 : ([(x : Int)].contains (i : Int)) = false := by simp; omega
    rw [h4, h2]

theorem Ix.app {n : Nat} {s : List Int} (h : Ix n s) {x : Nat} (hx : x < n) (hm : mem s x = false) : Ix n (s ++ [(x : Int)]) := by
  refine ⟨fun i hi => ?_, ?_⟩
  · rcases List.mem_append.1 hi with hi | hi
    · exact h.rng i hi
    · rcases List.mem_singleton.1 hi with rfl; omega
  · rw [List.nodup_append]
    refine ⟨h.nd, by simp, fun a ha b hb => ?_⟩
    rcases List.mem_singleton.1 hb with rfl
    intro e; subst e
    have : mem s x = true := List.contains_iff_mem.2 ha
    rw [hm] at this; cases this

theorem Ix.perm {n : Nat} {s t : List Int} (h : Ix n s) (p : t.Perm s) : Ix n t := ⟨fun i hi => h.rng i (p.mem_iff.1 hi), p.nodup_iff.2 h.nd⟩
theorem mem_perm {s t : List Int} (p : t.Perm s) (i : Nat) : mem t i = mem s i := by
  unfold mem
  cases h : s.contains (i : Int) with
  | true => exact List.contains_iff_mem.2 (p.mem_iff.2 (List.contains_iff_mem.1 h))
  | false =>
    cases h2 : t.contains (i : Int) with
    | false => rfl
    | true => have := List.contains_iff_mem.2 (p.mem_iff.1 (List.contains_iff_mem.1 h2)); rw [h] at this; cases this

/-- What holds on the way. -/
structure GI (l : List Od) (A : Nat → Bool) (D : List Int) (s : List Int) : Prop where
  ix : Ix l.length s
  pos : Pos (dyl l) l.length (mem s)
  sub : ∀ i, i < l.length → A i = true → mem s i = true
  J : ∀ i : Nat, mem s i = true → A i = true ∨ (i : Int) ∈ D
  K : ∀ e : Nat, e < l.length → (e : Int) ∈ D → mem s e = false → ¬ Pos (dyl l) l.length (ins (fun i => mem s i && (A i || bef (fnl l) i e)) e)

theorem grd_ok {l : List Od} (h1 : ∀ o ∈ l, 1 ≤ o.1) {A : Nat → Bool} : ∀ (R D s : List Int), (D ++ R).Pairwise (fun a b => bef (fnl l) a.toNat b.toNat = true) → (∀ i ∈ R, 0 ≤ i ∧ i < l.length) → GI l A D s → GI l A (D ++ R) (grd l R s)
  | [], D, s, _, _, h => by rw [List.append_nil]; exact h
  | i :: R, D, s, hp, hr, h => by
    have hi := hr i (by simp)
    obtain ⟨k, rfl⟩ : ∃ k : Nat, i = k := ⟨i.toNat, by omega⟩
    have hk : k < l.length := by omega
    have ee : D ++ (k : Int) :: R = (D ++ [(k : Int)]) ++ R := by simp
    have hr' : ∀ i ∈ R, 0 ≤ i ∧ i < l.length := fun i hi => hr i (List.mem_cons_of_mem _ hi)
    have hbef : ∀ d ∈ D, bef (fnl l) d.toNat k = true := fun d hd => (List.pairwise_append.1 hp).2.2 d hd (k : Int) (by simp)
    rw [ee] at hp ⊢
    rw [grd]
    cases hc : s.contains (k : Int) with
    | true =>
      rw [cond_true]
      refine grd_ok h1 R _ s hp hr' ⟨h.ix, h.pos, h.sub, fun i hi => (h.J i hi).imp id fun q => List.mem_append_left _ q, fun e he hD hm => ?_⟩
      rcases List.mem_append.1 hD with hD | hD
      · exact h.K e he hD hm
      · have : e = k := by have := List.mem_singleton.1 hD; omega
        subst this
        have : mem s e = true := hc
        rw [hm] at this; cases this
    | false =>
      have hmk : mem s k = false := hc
      have hix := h.ix.app hk hmk
      have hFO := (fo_FO h1 hix).congr fun i _ => mem_app s k i
      rw [cond_false]
      cases hf : fo 0 (srt (daysOf l (s ++ [(k : Int)]))) == 0 with
      | true =>
        rw [cond_true]
        have hpos := hFO.zero.1 (by simpa using hf)
        refine grd_ok h1 R _ _ hp hr' ⟨hix, fun d => ?_, fun i hi ha => ?_, fun i hi => ?_, fun e he hD hm hq => ?_⟩
        · have : by_ (dyl l) l.length (mem (s ++ [(k : Int)])) d = by_ (dyl l) l.length (ins (mem s) k) d := cnt_congr fun i _ => by rw [mem_app]
          rw [this]; exact hpos d
        · rw [mem_app]; simp [ins, h.sub i hi ha]
        · rw [mem_app] at hi
          simp only [ins, Bool.or_eq_true, beq_iff_eq] at hi
          rcases hi with hi | rfl
          · exact (h.J i hi).imp id fun q => List.mem_append_left _ q
          · exact .inr (by simp)
        · rw [mem_app] at hm
          simp only [ins, Bool.or_eq_false_iff] at hm
          have hek : e ≠ k := by simpa using hm.2
          rcases List.mem_append.1 hD with hD | hD
          · refine h.K e he hD hm.1 (hq.sub (ins_sub fun j _ hj => ?_))
            simp only [Bool.and_eq_true] at hj ⊢
            refine ⟨?_, hj.2⟩
            rw [mem_app]; simp [ins, hj.1]
          · exact hek (by have := List.mem_singleton.1 hD; omega)
      | false =>
        rw [cond_false]
        have hno : ¬ Pos (dyl l) l.length (ins (mem s) k) := fun q => by
          have := hFO.zero.2 q
          rw [this] at hf; simp at hf
        refine grd_ok h1 R _ s hp hr' ⟨h.ix, h.pos, h.sub, fun i hi => (h.J i hi).imp id fun q => List.mem_append_left _ q, fun e he hD hm hq => ?_⟩
        rcases List.mem_append.1 hD with hD | hD
        · exact h.K e he hD hm hq
        · have : e = k := by have := List.mem_singleton.1 hD; omega
          subst this
          refine hno (hq.sub (ins_sub fun j _ hj => ?_))
          simp only [Bool.and_eq_true, Bool.or_eq_true]
          exact ⟨hj, (h.J j hj).imp id fun q => by simpa using hbef _ q⟩

theorem greedy_ix {l : List Od} (h1 : ∀ o ∈ l, 1 ≤ o.1) {s : List Int} (hs : Ix l.length s) (hp : Pos (dyl l) l.length (mem s)) : Ix l.length (greedy l s) ∧ Gr (dyl l) (fnl l) l.length (mem s) (mem (greedy l s)) := by
  have h := grd_ok h1 (A := mem s) (byFine l) [] s (by simpa using byFine_pw l) (fun i hi => byFine_mem.1 hi) ⟨hs, hp, fun i _ h => h, fun i h => .inl h, fun e _ hD => by cases hD⟩
  rw [List.nil_append] at h
  have pm := srt_perm (grd l (byFine l) s)
  have e : ∀ i, mem (greedy l s) i = mem (grd l (byFine l) s) i := mem_perm pm
  have e2 : mem (greedy l s) = mem (grd l (byFine l) s) := funext e
  refine ⟨h.ix.perm pm, ?_⟩
  rw [e2]
  exact ⟨h.pos, h.sub, fun e he hG => h.K e he (byFine_mem.2 ⟨by omega, by omega⟩) hG⟩

theorem greedy_sorted (l : List Od) (s : List Int) : (greedy l s).Pairwise (fun a b => decide (a ≤ b) = true) := srt_sorted _

/-! ### contains -/
def B63 (s : List Int) (v : Int) : Option Bool := if s.length ≤ 1000 then some (s.contains v) else none
def B81 (s : List Int) (v : Int) : Option Int := if s.length ≤ 1000 then some (fx (fun x => v == x) 0 s) else none
theorem KB81 : FnOk Try.prog 81 (F81 B81) := ok81 B81 fun s v r h => ⟨1001, by
  simp only [B81] at h
  split at h
  · rename_i hl
    rw [← h, m81]
    exact rangeIx s 0 (fun n (_ : Unit) t => l81a 1001 s v n t) (fun _ _ _ => True) (fun t xs _ => some (fx (fun x => v == x) t xs))
      (fun n _ t x rest ht hx _ ih => by
        simp only [l81a, ixA ht, ixB ht, cond_true, chk_true, Int.toNat_natCast, ixW ht (by omega), hx, ih () trivial, fx]
        cases v == x <;> rfl)
      (fun n _ _ => by simp only [l81a, ixE, cond_false]; rfl) 1001 () (by omega) trivial
  · cases h⟩
theorem KB63 : FnOk Try.prog 63 (F63 B63) := ok63 B81 KB81 B63 fun s v r h => ⟨0, by
  simp only [B63] at h
  split at h
  · rename_i hl
    rw [← h, m63, B81, if_pos hl, Option.bind_some, fx_ge _ s 0 (by omega), List.contains_eq_any_beq]
  · cases h⟩

/-! ### fits -/
def B77 (s : List Int) : Option (List Int) := some s
theorem KB77 : FnOk Try.prog 77 (F77 B77) := ok77 B77 fun s r h => ⟨0, by
  rw [← h, m77]
  have : (decide (0 ≤ (s.length : Int) ∧ (s.length : Int) ≤ (s.length : Int)) && decide ((s.length : Int) = (s.length : Int))) = true := by simp
  rw [this, chk_true, Int.toNat_natCast, List.take_length]; rfl⟩
def B76 (i : Int) (l : List Od) (s : List Int) : Option Bool :=
  if l.length ≤ 1000 ∧ s.length + 1 ≤ 1000 ∧ ∀ j ∈ s ++ [i], 0 ≤ j ∧ j < (l.length : Int) then some (fo 0 (srt (daysOf l (s ++ [i]))) == 0) else none
theorem KB76c : FnOk Try.prog 76 (F76c B76) := ok76c B50 B77 KB50 KB77 B76 fun i l s r h => ⟨0, by
  simp only [B76] at h
  split at h
  · rename_i hh
    rw [← h, m76c, B77, Option.bind_some, small_of (by omega) (by decide), chk_true, B50, if_pos ⟨hh.1, by simp; omega, hh.2.2⟩, Option.bind_some]
  · cases h⟩
theorem KB76v : FnOk Try.prog 76 (F76cv2 (A76v B76)) := ok76v KB76c

/-! ### press.greedy -/
def B55v (l : List Od) (s : List Int) : Option (List Int) :=
  if l.length < 20 ∧ s.length ≤ 100 ∧ ∀ i ∈ s, 0 ≤ i ∧ i < (l.length : Int) then some (greedy l s) else none
def B55 (l : List Od) : Option (List Int) := B55v l []

theorem ixs_fill {n t : Nat} (h : t < n) : (ixs t ++ List.replicate (n - t) (0 : Int)).set t (t : Int) = ixs (t + 1) ++ List.replicate (n - (t + 1)) 0 := by
  rw [ixs_succ, show n - t = (n - (t + 1)) + 1 by omega, List.replicate_succ]
  have := ixs_len t
  rw [List.set_append_right _ _ (by omega), this, Nat.sub_self, List.set_cons_zero]
  simp

theorem byFine_len (l : List Od) : (byFine l).length = l.length := by rw [byFine, (isortR_perm _ _).length_eq, ixs_len]

theorem inR_iff {l : List Od} {i : Int} : inR l i = true ↔ 0 ≤ i ∧ i < (l.length : Int) := by simp [inR]

theorem B60_idx (l : List Od) (h : l.length < 20) : B60 lt78 (ixs l.length) l = some (byFine l, l) := if_pos ⟨by rw [ixs_len]; exact h, fun i hi => inR_iff.2 (ixs_mem.1 hi)⟩

/-- The loop over the orders, in both texts. -/
theorem grd_step {l : List Od} (hl : l.length < 20) {x : Int} {rest s : List Int} {hs : s.length + (x :: rest).length ≤ 200} (hr : ∀ i ∈ s ++ x :: rest, 0 ≤ i ∧ i < (l.length : Int)) : B63 s x = some (s.contains x) ∧ A76v B76 x l s = some (fo 0 (srt (daysOf l (s ++ [x]))) == 0, l, s) ∧ small (s.length + 1) 8 = true := by
  simp only [List.length_cons] at hs
  refine ⟨if_pos (by omega), ?_, small_of (by omega) (by decide)⟩
  have hc : ∀ j ∈ s ++ [x], 0 ≤ j ∧ j < (l.length : Int) := fun j hj => by
    rcases List.mem_append.1 hj with hj | hj
    · exact hr j (List.mem_append_left _ hj)
    · rcases List.mem_singleton.1 hj with rfl; exact hr _ (List.mem_append_right _ (by simp))
  rw [A76v, B76, if_pos ⟨by omega, by omega, hc⟩]; rfl

theorem grd_len (l : List Od) : ∀ (R s : List Int), (grd l R s).length ≤ s.length + R.length
  | [], s => by simp [grd]
  | i :: R, s => by
    rw [grd]
    have a := grd_len l R s
    have b := grd_len l R (s ++ [i])
    simp only [List.length_append, List.length_cons, List.length_nil] at *
    cases s.contains i with
    | true => rw [cond_true]; omega
    | false =>
      rw [cond_false]
      cases fo 0 (srt (daysOf l (s ++ [i]))) == 0 with
      | true => rw [cond_true]; omega
      | false => rw [cond_false]; omega

theorem KB55 : FnOk Try.prog 55 (F55c B55) := ok55c (B60 lt78) B63 A70 (A76v B76) KB60c78 KB63 ok70 KB76v B55 fun l r h => ⟨1001, by
  simp only [B55, B55v] at h
  split at h
  · rename_i hh
    obtain ⟨hl, hsl, hsr⟩ := hh
    have loop2 : l55cb (B60 lt78) B63 A70 (A76v B76) 1001 (byFine l, l) 1001 0 [] l = some (greedy l []) :=
      rangeInv (byFine l) 0 (fun n (o : List Int) t => l55cb (B60 lt78) B63 A70 (A76v B76) 1001 (byFine l, l) n t o l) (fun xs o => o.length + xs.length ≤ 200 ∧ ∀ i ∈ o ++ xs, 0 ≤ i ∧ i < (l.length : Int)) (fun xs o => some (srt (grd l xs o)))
        (fun n o t x rest ht hx hI ih => by
          obtain ⟨a, b, c⟩ := grd_step hl (hs := hI.1) hI.2
          obtain ⟨hI1, hI2⟩ := hI
          simp only [List.length_cons] at hI1
          simp only [l55cb, ixA ht, ixB ht, cond_true, chk_true, Int.toNat_natCast, ixW ht (by rw [byFine_len]; omega), hx, a, b, c, Option.bind_some]
          rw [ih (o ++ [x]) ⟨by simp; omega, fun i hi => hI2 i (by simpa using hi)⟩, ih o ⟨by omega, fun i hi => hI2 i (by
            rcases List.mem_append.1 hi with hi | hi
            · exact List.mem_append_left _ hi
            · exact List.mem_append_right _ (List.mem_cons_of_mem _ hi))⟩]
          rw [grd]
          cases s2 : o.contains x
          · simp only [Bool.not_false, cond_true, cond_false]
            cases fo 0 (srt (daysOf l (o ++ [x]))) == 0 <;> rfl
          · rfl)
        (fun n o hI => by
          simp only [l55cb, ixE, cond_false]
          have := hI.1
          rw [A70, if_pos (by simp only [List.length_nil] at this; omega), Option.bind_some]; rfl) 1001 [] (by rw [byFine_len]; omega) ⟨by rw [byFine_len]; simp; omega, fun i hi => byFine_mem.1 (by simpa using hi)⟩
    have loop1 : l55ca (B60 lt78) B63 A70 (A76v B76) 1001 l 1001 0 (List.replicate l.length 0) = some (greedy l []) := by
      refine rangeIx (List.replicate l.length (0 : Int)) 0 (fun n (o : List Int) t => l55ca (B60 lt78) B63 A70 (A76v B76) 1001 l n t o) (fun t xs o => t ≤ l.length ∧ o = ixs t ++ List.replicate (l.length - t) 0) (fun t xs o => some (greedy l []))
        (fun n o t x rest ht hx hI ih => ?_) (fun n o hI => ?_) 1001 _ (by simp; omega) ⟨by omega, by simp [ixs]⟩
      · obtain ⟨h1, rfl⟩ := hI
        have ht' : t < l.length := by simpa using ht
        have hlen : (ixs t ++ List.replicate (l.length - t) (0 : Int)).length = l.length := by simp [ixs]; omega
        have hb : decide ((0 : Int) ≤ (t : Int) ∧ (t : Int) < ((ixs t ++ List.replicate (l.length - t) (0 : Int)).length : Int)) = true := by rw [hlen]; exact decide_eq_true (by omega)
        have ha : decide ((t : Int) < ((List.replicate l.length (0 : Int)).length : Int)) = true := by simp; omega
        simp only [l55ca, ha, hb, cond_true, chk_true, Int.toNat_natCast, w64_succ (show t < 4611686018427387904 by omega), ixs_fill ht']
        exact ih _ ⟨by omega, rfl⟩
      · obtain ⟨h1, rfl⟩ := hI
        have ha : decide (((List.replicate l.length (0 : Int)).length : Int) < ((List.replicate l.length (0 : Int)).length : Int)) = false := by simp
        have e : ixs (List.replicate l.length (0 : Int)).length ++ List.replicate (l.length - (List.replicate l.length (0 : Int)).length) (0 : Int) = ixs l.length := by simp
        rw [e]
        simp only [l55ca, Int.toNat_natCast, ha, cond_false, B60_idx l hl, Option.bind_some]
        exact loop2
    rw [← h, m55c, mkOk_of (by omega) (by omega) (by omega) (by omega), chk_true, Int.toNat_natCast]
    exact loop1
  · cases h⟩

end Go.Proofs.Ytbblnbolabpfmaa

namespace Go.Proofs.Ytbblnbolabpfmaa
open Go.RowKit
set_option linter.unusedVariables false

/-- Behind all that are not smaller. -/
def putO (x : Od) : List Od → List Od
  | [] => [x]
  | y :: r => if y.2.1 < x.2.1 then x :: y :: r else y :: putO x r
def FallO (p : List Od) : Prop := p.Pairwise fun a b => b.2.1 ≤ a.2.1

theorem putO_mem {x : Od} : ∀ {p : List Od} {y : Od}, y ∈ putO x p ↔ y = x ∨ y ∈ p
  | [], y => by simp [putO]
  | z :: r, y => by
    unfold putO
    split
    · simp
    · simp only [List.mem_cons, putO_mem (p := r)]
      constructor
      · rintro (h | h | h)
        · exact .inr (.inl h)
        · exact .inl h
        · exact .inr (.inr h)
      · rintro (h | h | h)
        · exact .inr (.inl h)
        · exact .inl h
        · exact .inr (.inr h)

theorem putO_fall {x : Od} : ∀ {p : List Od}, FallO p → FallO (putO x p)
  | [], _ => by simp [putO, FallO]
  | y :: r, h => by
    obtain ⟨h1, h2⟩ := List.pairwise_cons.1 h
    unfold putO
    split
    · rename_i hlt
      refine List.pairwise_cons.2 ⟨fun z hz => ?_, h⟩
      rcases List.mem_cons.1 hz with rfl | hz
      · omega
      · have := h1 z hz; omega
    · rename_i hlt
      refine List.pairwise_cons.2 ⟨fun z hz => ?_, putO_fall h2⟩
      rcases putO_mem.1 hz with rfl | hz
      · omega
      · exact h1 z hz

theorem putO_len {x : Od} : ∀ {p : List Od}, (putO x p).length = p.length + 1
  | [] => rfl
  | y :: r => by
    unfold putO
    split
    · simp
    · simp only [List.length_cons, putO_len (p := r)]

theorem putO_split (x : Od) : ∀ {p : List Od}, FallO p → ∃ A B, p = A ++ B ∧ (∀ a ∈ A, x.2.1 ≤ a.2.1) ∧ (∀ b ∈ B, b.2.1 < x.2.1) ∧ putO x p = A ++ x :: B
  | [], _ => ⟨[], [], rfl, by simp, by simp, rfl⟩
  | y :: r, h => by
    obtain ⟨h1, h2⟩ := List.pairwise_cons.1 h
    by_cases hlt : y.2.1 < x.2.1
    · refine ⟨[], y :: r, rfl, by simp, fun b hb => ?_, by rw [putO, if_pos hlt]; rfl⟩
      rcases List.mem_cons.1 hb with rfl | hb
      · exact hlt
      · have := h1 b hb; omega
    · obtain ⟨A, B, e1, e2, e3, e4⟩ := putO_split x h2
      refine ⟨y :: A, B, by rw [e1]; rfl, fun a ha => ?_, e3, by rw [putO, if_neg hlt, e4]; rfl⟩
      rcases List.mem_cons.1 ha with rfl | ha
      · omega
      · exact e2 a ha

instance (p : List Od) : Decidable (FallO p) := by unfold FallO; infer_instance
def B73 (x : Od) (p : List Od) : Option (List Od) := if p.length ≤ 100000 ∧ FallO p then some (putO x p) else none

theorem put_loop (x : Od) {A B : List Od} (hA : ∀ a ∈ A, x.2.1 ≤ a.2.1) (hB : ∀ b ∈ B, b.2.1 < x.2.1) (hl : (A ++ B).length ≤ 100000) (N : Nat) : ∀ (m n : Nat), m ≤ B.length → m < n → l73ca B72 A85 N x (A ++ B) n ((A.length + m : Nat) : Int) = some (A ++ x :: B)
  | 0, n, hm, hn => by
    obtain ⟨k, rfl⟩ : ∃ k, n = k + 1 := ⟨n - 1, by omega⟩
    rw [List.length_append] at hl
    have hins : A85 ((A.length + 0 : Nat) : Int) [x] (A ++ B) = some (A ++ x :: B) := by
      rw [A85, if_pos ⟨by omega, by rw [List.length_append]; omega, rfl, by rw [List.length_append]; omega⟩]
      simp
    cases hz : decide (((A.length + 0 : Nat) : Int) > 0) with
    | false => simp only [l73ca, hz, cond_false, hins, Option.bind_some]
    | true =>
      have hz' : 0 < A.length := by have := of_decide_eq_true hz; omega
      have e : w64 (((A.length + 0 : Nat) : Int) - 1) = ((A.length - 1 : Nat) : Int) := by rw [w64_small (by omega)]; omega
      have hget : (A ++ B).getD (A.length - 1) d3 ∈ A := by
        rw [List.getD_eq_getElem?_getD, List.getElem?_append_left (by omega), List.getElem?_eq_getElem (by omega), Option.getD_some]
        exact List.getElem_mem _
      have h2 := hA _ hget
      have hc : decide (cmpI ((A ++ B).getD (A.length - 1) d3).2.1 x.2.1 < 0) = false := by rw [cmpI_lt]; exact decide_eq_false (by omega)
      simp only [l73ca, hz, cond_true, e, ixB (show A.length - 1 < (A ++ B).length by rw [List.length_append]; omega), chk_true, Int.toNat_natCast, B72, Option.bind_some, hc, cond_false, hins]
  | m + 1, n, hm, hn => by
    obtain ⟨k, rfl⟩ : ∃ k, n = k + 1 := ⟨n - 1, by omega⟩
    have hl' := hl
    rw [List.length_append] at hl
    have hz : decide (((A.length + (m + 1) : Nat) : Int) > 0) = true := decide_eq_true (by omega)
    have e : w64 (((A.length + (m + 1) : Nat) : Int) - 1) = ((A.length + m : Nat) : Int) := by rw [w64_small (by omega)]; omega
    have hget : (A ++ B).getD (A.length + m) d3 ∈ B := by
      rw [List.getD_eq_getElem?_getD, List.getElem?_append_right (by omega), Nat.add_sub_cancel_left, List.getElem?_eq_getElem (by omega), Option.getD_some]
      exact List.getElem_mem _
    have h2 := hB _ hget
    have hc : decide (cmpI ((A ++ B).getD (A.length + m) d3).2.1 x.2.1 < 0) = true := by rw [cmpI_lt]; exact decide_eq_true h2
    have ih := put_loop x hA hB hl' N m k (by omega) (by omega)
    simp only [l73ca, hz, cond_true, e, ixB (show A.length + m < (A ++ B).length by rw [List.length_append]; omega), chk_true, Int.toNat_natCast, B72, Option.bind_some, hc, ih]

theorem KB73 : FnOk Try.prog 73 (F73c B73) := ok73c B72 A85 KB72 ok85 B73 fun x p r h => ⟨100001, by
  simp only [B73] at h
  split at h
  · rename_i hh
    obtain ⟨A, B, rfl, hA, hB, e⟩ := putO_split x hh.2
    rw [← h, m73c, e]
    have := put_loop x hA hB hh.1 100001 B.length 100001 (Nat.le_refl _) (by have := hh.1; rw [List.length_append] at this; omega)
    rw [← List.length_append] at this
    exact this
  · cases h⟩

def takeO : List Od → Od × Bool × List Od
  | [] => (d3, false, [])
  | x :: r => (x, true, r)
def B74 (p : List Od) : Option (Od × Bool × List Od) := if p.length ≤ 1000000 then some (takeO p) else none
theorem KB74 : FnOk Try.prog 74 (F74c B74) := ok74c B74 fun p r h => ⟨0, by
  simp only [B74] at h
  split at h
  · rw [← h, m74c]
    cases p with
    | nil => rfl
    | cons x r =>
      have h1 : ((((x :: r).length : Nat) : Int) == 0) = false := by simp; omega
      have h2 : decide ((0 : Int) ≤ 0 ∧ (0 : Int) < (((x :: r).length : Nat) : Int)) = true := decide_eq_true (by rw [List.length_cons]; omega)
      have h3 : decide ((0 : Int) ≤ 1 ∧ (1 : Int) ≤ (((x :: r).length : Nat) : Int)) = true := decide_eq_true (by rw [List.length_cons]; omega)
      rw [h1, h2, h3]; rfl
  · cases h⟩

/-! ### the least fines -/
def dayO (l : List Od) (t : Nat) (Q : List Od) : List Od := l.foldl (fun q o => cond (o.1 == (t : Int)) (putO o q) q) Q
def runO (l : List Od) : Nat → List Od → Int
  | 0, _ => 0
  | t + 1, Q => match dayO l (t + 1) Q with
    | [] => runO l t []
    | o :: r => o.2.1 + runO l t r
def lastO (l : List Od) : Int := l.foldl (fun m o => imax m o.1) 0
def sumO : List Od → Int
  | [] => 0
  | o :: r => o.2.1 + sumO r
def leastO (l : List Od) : Int := sumO l - runO l (lastO l).toNat []

/-- Orders with days up to 60. -/
structure Ok6 (l : List Od) : Prop where
  len : l.length ≤ 12
  all : ∀ o ∈ l, (1 ≤ o.1 ∧ o.1 ≤ 60) ∧ 0 ≤ o.2.1 ∧ o.2.1 ≤ 10000
instance (l : List Od) : Decidable (Ok6 l) := decidable_of_iff (l.length ≤ 12 ∧ ∀ o ∈ l, (1 ≤ o.1 ∧ o.1 ≤ 60) ∧ 0 ≤ o.2.1 ∧ o.2.1 ≤ 10000) ⟨fun h => ⟨h.1, h.2⟩, fun h => ⟨h.1, h.2⟩⟩

theorem imax_eq (a b : Int) : imax a b = if a < b then b else a := by
  unfold imax
  by_cases h : a < b <;> simp [h] <;> omega

theorem lastO_le {l : List Od} : ∀ {m : Int}, 0 ≤ m → m ≤ 60 → (∀ o ∈ l, 1 ≤ o.1 ∧ o.1 ≤ 60) → 0 ≤ l.foldl (fun m o => imax m o.1) m ∧ l.foldl (fun m o => imax m o.1) m ≤ 60 ∧ m ≤ l.foldl (fun m o => imax m o.1) m ∧ ∀ o ∈ l, o.1 ≤ l.foldl (fun m o => imax m o.1) m := by
  induction l with
  | nil => intro m h0 h1 _; exact ⟨h0, h1, Int.le_refl _, fun _ h => by cases h⟩
  | cons x r ih =>
    intro m h0 h1 h
    have hx := h x (by simp)
    simp only [List.foldl_cons]
    have hi := imax_eq m x.1
    have hb : 0 ≤ imax m x.1 ∧ imax m x.1 ≤ 60 ∧ m ≤ imax m x.1 ∧ x.1 ≤ imax m x.1 := by rw [hi]; split <;> omega
    obtain ⟨a, b, c, d⟩ := ih hb.1 hb.2.1 (fun o ho => h o (List.mem_cons_of_mem _ ho))
    refine ⟨a, b, by omega, fun o ho => ?_⟩
    rcases List.mem_cons.1 ho with rfl | ho
    · omega
    · exact d o ho

theorem sumO_le {l : List Od} (h : ∀ o ∈ l, 0 ≤ o.2.1 ∧ o.2.1 ≤ 10000) : 0 ≤ sumO l ∧ sumO l ≤ 10000 * l.length := by
  induction l with
  | nil => simp [sumO]
  | cons x r ih =>
    have hx := h x (by simp)
    obtain ⟨a, b⟩ := ih fun o ho => h o (List.mem_cons_of_mem _ ho)
    simp only [sumO, List.length_cons]; omega

/-- What a queue has. -/
structure QO (b : Nat) (Q : List Od) : Prop where
  len : Q.length ≤ b
  fall : FallO Q
  all : ∀ o ∈ Q, 0 ≤ o.2.1 ∧ o.2.1 ≤ 10000

theorem QO.put {b : Nat} {Q : List Od} (h : QO b Q) {x : Od} (hx : 0 ≤ x.2.1 ∧ x.2.1 ≤ 10000) : QO (b + 1) (putO x Q) := ⟨by rw [putO_len]; have := h.len; omega, putO_fall h.fall, fun o ho => by
  rcases putO_mem.1 ho with rfl | ho
  · exact hx
  · exact h.all o ho⟩

theorem dayO_ok {t : Nat} : ∀ {l : List Od} {b : Nat} {Q : List Od}, (∀ o ∈ l, 0 ≤ o.2.1 ∧ o.2.1 ≤ 10000) → QO b Q → QO (b + l.length) (dayO l t Q)
  | [], b, Q, _, h => h
  | x :: r, b, Q, hl, h => by
    unfold dayO
    simp only [List.foldl_cons]
    have hx := hl x (by simp)
    have hr : ∀ o ∈ r, 0 ≤ o.2.1 ∧ o.2.1 ≤ 10000 := fun o ho => hl o (List.mem_cons_of_mem _ ho)
    cases x.1 == (t : Int) with
    | true =>
      rw [cond_true]
      have := dayO_ok (t := t) hr (h.put hx)
      rw [show b + 1 + r.length = b + (x :: r).length by simp; omega] at this
      exact this
    | false =>
      rw [cond_false]
      have := dayO_ok (t := t) (b := b) (Q := Q) hr h
      exact ⟨by have := this.len; simp only [List.length_cons]; unfold dayO at this; omega, this.fall, this.all⟩

theorem fill_loop {l : List Od} (hl : Ok6 l) {last n : Int} {tb : Int} {t : Nat} (ht : w64 (last - tb) = (t : Int)) {rec : Int → Int → List Od → Option Int} {Q : List Od} {b : Nat} (hQ : QO b Q) (hb : b ≤ 90000) (N : Nat) (hN : 1001 ≤ N) : l53c B73 B74 N l last n tb rec N 0 Q = (B74 (dayO l t Q)).bind fun r => cond r.2.1 (rec (w64 (n - r.1.2.1)) (w64 (tb + 1)) r.2.2) (rec n (w64 (tb + 1)) r.2.2) :=
  rangeInv l d3 (fun k (Q : List Od) t => l53c B73 B74 N l last n tb rec k t Q) (fun xs Q => (∃ b, QO b Q ∧ b + xs.length ≤ 90012) ∧ ∀ o ∈ xs, 0 ≤ o.2.1 ∧ o.2.1 ≤ 10000) (fun xs Q => (B74 (dayO xs t Q)).bind fun r => cond r.2.1 (rec (w64 (n - r.1.2.1)) (w64 (tb + 1)) r.2.2) (rec n (w64 (tb + 1)) r.2.2))
    (fun k Q i x rest hi hx hI ih => by
      obtain ⟨⟨b, hQ, hb⟩, hall⟩ := hI
      simp only [List.length_cons] at hb
      have hbl := hQ.len
      have hput : B73 x Q = some (putO x Q) := if_pos ⟨by omega, hQ.fall⟩
      have hle := hl.len
      simp only [l53c, ixA hi, ixB hi, cond_true, chk_true, Int.toNat_natCast, ixW hi (by omega), hx, ht, hput, Option.bind_some]
      have hall' : ∀ o ∈ rest, 0 ≤ o.2.1 ∧ o.2.1 ≤ 10000 := fun o ho => hall o (List.mem_cons_of_mem _ ho)
      rw [ih (putO x Q) ⟨⟨b + 1, hQ.put (hall x (by simp)), by omega⟩, hall'⟩, ih Q ⟨⟨b, hQ, by omega⟩, hall'⟩]
      show _ = (B74 (dayO rest t (cond (x.1 == (t : Int)) (putO x Q) Q))).bind _
      cases x.1 == (t : Int) <;> rfl)
    (fun k Q hI => by simp only [l53c, ixE, cond_false]; rfl) N Q (by have := hl.len; omega) ⟨⟨b, hQ, by have := hl.len; omega⟩, fun o ho => (hl.all o ho).2⟩

theorem runO_le {l : List Od} (hl : ∀ o ∈ l, 0 ≤ o.2.1 ∧ o.2.1 ≤ 10000) : ∀ (t : Nat) {b : Nat} {Q : List Od}, QO b Q → 0 ≤ runO l t Q ∧ runO l t Q ≤ 10000 * t
  | 0, b, Q, _ => by simp [runO]
  | t + 1, b, Q, hQ => by
    have hd := dayO_ok (t := t + 1) hl hQ
    simp only [runO]
    cases he : dayO l (t + 1) Q with
    | nil => have := runO_le hl t (b := 0) (Q := []) ⟨by simp, by simp [FallO], by simp⟩; simp only; omega
    | cons o r =>
      rw [he] at hd
      have ho := hd.all o (by simp)
      have hr : QO (b + l.length) r := ⟨by have := hd.len; simp only [List.length_cons] at this; omega, (List.pairwise_cons.1 hd.fall).2, fun o ho => hd.all o (List.mem_cons_of_mem _ ho)⟩
      have := runO_le hl t hr
      simp only; omega

theorem back_loop {l : List Od} (hl : Ok6 l) {L : Nat} (hL : L ≤ 60) (N : Nat) (hN : 1001 ≤ N) : ∀ (t k : Nat) (n : Int) (Q : List Od), t ≤ L → t < k → QO (12 * (60 - t)) Q → -1000000 + 10000 * (t : Int) ≤ n ∧ n ≤ 1000000 → l53b B73 B74 N l (L : Int) k n ((L - t : Nat) : Int) Q = some (n - runO l t Q) := by
  intro t
  induction t with
  | zero =>
    intro k n Q h1 h2 hQ hn
    obtain ⟨k, rfl⟩ : ∃ m, k = m + 1 := ⟨k - 1, by omega⟩
    simp only [l53b, Nat.sub_zero, ixE, cond_false, runO, Int.sub_zero]
  | succ t ih =>
    intro k n Q h1 h2 hQ hn
    obtain ⟨k, rfl⟩ : ∃ m, k = m + 1 := ⟨k - 1, by omega⟩
    have hf : ∀ o ∈ l, 0 ≤ o.2.1 ∧ o.2.1 ≤ 10000 := fun o ho => (hl.all o ho).2
    have hd := dayO_ok (t := t + 1) hf hQ
    have hlen := hl.len
    have e1 : w64 ((L : Int) - ((L - (t + 1) : Nat) : Int)) = ((t + 1 : Nat) : Int) := by rw [w64_small (by omega)]; omega
    have e2 : w64 (((L - (t + 1) : Nat) : Int) + 1) = ((L - t : Nat) : Int) := by rw [w64_small (by omega)]; omega
    have hd' : QO (12 * (60 - t)) (dayO l (t + 1) Q) := ⟨by have := hd.len; omega, hd.fall, hd.all⟩
    simp only [l53b, decide_eq_true (show ((L - (t + 1) : Nat) : Int) < (L : Int) by omega), cond_true]
    rw [fill_loop hl e1 hQ (by omega) N hN, B74, if_pos (by have := hd'.len; omega), Option.bind_some, e2]
    simp only [runO]
    cases he : dayO l (t + 1) Q with
    | nil =>
      simp only [takeO, cond_false]
      exact ih k n [] (by omega) (by omega) ⟨by simp, by simp [FallO], by simp⟩ (by omega)
    | cons o r =>
      rw [he] at hd'
      have ho := hd'.all o (by simp)
      have hr : QO (12 * (60 - t)) r := ⟨by have := hd'.len; simp only [List.length_cons] at this; omega, (List.pairwise_cons.1 hd'.fall).2, fun o ho => hd'.all o (List.mem_cons_of_mem _ ho)⟩
      simp only [takeO, cond_true]
      rw [w64_small (by omega), ih k _ r (by omega) (by omega) hr (by omega)]
      congr 1; omega

def B53 (l : List Od) : Option Int := if Ok6 l then some (leastO l) else none
theorem KB53 : FnOk Try.prog 53 (F53 B53) := ok53 B73 B74 KB73 KB74 B53 fun l r h => ⟨1001, by
  simp only [B53] at h
  split at h
  · rename_i hl
    rw [← h, m53]
    obtain ⟨c1, c2, _, _⟩ := lastO_le (l := l) (m := 0) (by omega) (by omega) fun o ho => (hl.all o ho).1
    obtain ⟨s1, s2⟩ := sumO_le fun o ho => (hl.all o ho).2
    have hlen := hl.len
    obtain ⟨L, hL⟩ : ∃ L : Nat, lastO l = L := ⟨(lastO l).toNat, by unfold lastO; omega⟩
    have main := rangeInv l d3 (fun k (s : Int × Int) t => l53a B73 B74 1001 l k s.1 s.2 t) (fun xs s => 0 ≤ s.2 ∧ s.2 + sumO xs ≤ 1000000 ∧ xs.foldl (fun m o => imax m o.1) s.1 = lastO l ∧ ∀ o ∈ xs, 0 ≤ o.2.1 ∧ o.2.1 ≤ 10000) (fun xs s => some (s.2 + sumO xs - runO l (lastO l).toNat []))
      (fun k s t x rest ht hx hI ih => by
        obtain ⟨i1, i2, i3, i4⟩ := hI
        have hx0 := i4 x (by simp)
        have hr0 : ∀ o ∈ rest, 0 ≤ o.2.1 ∧ o.2.1 ≤ 10000 := fun o ho => i4 o (List.mem_cons_of_mem _ ho)
        have := sumO_le hr0
        simp only [sumO] at i2 ⊢
        simp only [l53a, ixA ht, ixB ht, cond_true, chk_true, Int.toNat_natCast, ixW ht (by omega), hx]
        rw [w64_small (by omega), ih (imax s.1 x.1, s.2 + x.2.1) ⟨by show 0 ≤ s.2 + x.2.1; omega, by show s.2 + x.2.1 + sumO rest ≤ _; omega, i3, hr0⟩]
        show some (s.2 + x.2.1 + sumO rest - _) = _
        congr 1; omega)
      (fun k s hI => by
        obtain ⟨i1, i2, i3, i4⟩ := hI
        simp only [List.foldl_nil] at i3
        simp only [sumO, Int.add_zero] at i2 ⊢
        simp only [l53a, ixE, cond_false, i3, hL, Int.toNat_natCast]
        have hL6 : (L : Int) ≤ 60 := by rw [← hL]; exact c2
        have := back_loop hl (L := L) (by omega) 1001 (by omega) L 1001 s.2 [] (Nat.le_refl _) (by omega) ⟨by simp, by simp [FallO], by simp⟩ (by omega)
        rw [Nat.sub_self] at this
        exact this) 1001 (0, 0) (by omega) ⟨by simp, by simp; omega, rfl, fun o ho => (hl.all o ho).2⟩
    rw [main]; simp [leastO]
  · cases h⟩

/-! ### what they are -/
theorem qput_map (l : List Od) (i : Nat) : ∀ Q : List Nat, putO (l.getD i d3) (Q.map fun j => l.getD j d3) = (qput (fnl l) i Q).map fun j => l.getD j d3
  | [] => rfl
  | j :: r => by
    simp only [List.map_cons, putO, qput]
    have e : fnl l j < fnl l i ↔ (l.getD j d3).2.1 < (l.getD i d3).2.1 := Iff.rfl
    by_cases h : (l.getD j d3).2.1 < (l.getD i d3).2.1
    · rw [if_pos h, if_pos (e.2 h)]; rfl
    · rw [if_neg h, if_neg fun q => h (e.1 q), qput_map l i r]; rfl

theorem map_range (l : List Od) : ((List.range l.length).map fun j => l.getD j d3) = l := by
  apply List.ext_getElem
  · simp
  · intro i h1 h2
    simp [List.getD, List.getElem?_eq_getElem h2]

theorem day_map {l : List Od} (h1 : ∀ o ∈ l, 1 ≤ o.1) (t : Nat) (Q : List Nat) : dayO l t (Q.map fun j => l.getD j d3) = (qday (dyl l) (fnl l) l.length t Q).map fun j => l.getD j d3 := by
  have key : ∀ (I : List Nat) (Q : List Nat), (∀ i ∈ I, i < l.length) → ((I.map fun j => l.getD j d3).foldl (fun q o => cond (o.1 == (t : Int)) (putO o q) q) (Q.map fun j => l.getD j d3)) = (I.foldl (fun q i => if dyl l i = t then qput (fnl l) i q else q) Q).map fun j => l.getD j d3 := by
    intro I
    induction I with
    | nil => intro Q _; rfl
    | cons i I ih =>
      intro Q hI
      simp only [List.map_cons, List.foldl_cons]
      have hi := hI i (by simp)
      have hd := h1 _ (List.getElem_mem hi)
      have hg : l.getD i d3 = l[i] := by simp [List.getD, List.getElem?_eq_getElem hi]
      have e : dyl l i = t ↔ (l.getD i d3).1 = (t : Int) := by unfold dyl; rw [hg]; omega
      by_cases h : dyl l i = t
      · have hb : ((l.getD i d3).1 == (t : Int)) = true := by simpa using e.1 h
        rw [hb, cond_true, if_pos h, qput_map, ih _ fun j hj => hI j (List.mem_cons_of_mem _ hj)]
      · have hb : ((l.getD i d3).1 == (t : Int)) = false := by
          cases q : ((l.getD i d3).1 == (t : Int)) with
          | false => rfl
          | true => exact absurd (e.2 (by simpa using q)) h
        rw [hb, cond_false, if_neg h, ih _ fun j hj => hI j (List.mem_cons_of_mem _ hj)]
  have := key (List.range l.length) Q fun i hi => List.mem_range.1 hi
  rw [map_range] at this
  exact this

theorem runO_run {l : List Od} (h1 : ∀ o ∈ l, 1 ≤ o.1) : ∀ (t : Nat) (Q : List Nat), runO l t (Q.map fun j => l.getD j d3) = run (dyl l) (fnl l) l.length t Q
  | 0, Q => rfl
  | t + 1, Q => by
    simp only [runO, run]
    rw [day_map h1]
    cases qday (dyl l) (fnl l) l.length (t + 1) Q with
    | nil => exact runO_run h1 t []
    | cons i r => simp only [List.map_cons]; rw [runO_run h1 t r]; rfl

/-- All fines. -/
def tot (l : List Od) : Int := ws (fnl l) (fun _ => true) l.length

theorem ws_shift (f : Nat → Int) (p : Nat → Bool) : ∀ n, ws f p (n + 1) = cond (p 0) (f 0) 0 + ws (fun i => f (i + 1)) (fun i => p (i + 1)) n
  | 0 => by simp [ws]
  | n + 1 => by
    rw [ws, ws_shift f p n]; simp only [ws]; omega
theorem sumO_tot : ∀ l : List Od, sumO l = tot l
  | [] => rfl
  | x :: r => by
    have := ws_shift (fnl (x :: r)) (fun _ => true) r.length
    rw [sumO, sumO_tot r]; exact this.symm

theorem fnl_rng {l : List Od} {M : Int} (h : ∀ o ∈ l, 0 ≤ o.2.1 ∧ o.2.1 ≤ M) {i : Nat} (hi : i < l.length) : 0 ≤ fnl l i ∧ fnl l i ≤ M := by
  have := h _ (List.getElem_mem hi)
  simpa [fnl, List.getD, List.getElem?_eq_getElem hi] using this
theorem dyl_rng {l : List Od} {M : Nat} (h : ∀ o ∈ l, 1 ≤ o.1 ∧ o.1 ≤ (M : Int)) {i : Nat} (hi : i < l.length) : 1 ≤ dyl l i ∧ dyl l i ≤ M := by
  have := h _ (List.getElem_mem hi)
  have e : dyl l i = (l[i]).1.toNat := by simp [dyl, List.getD, List.getElem?_eq_getElem hi]
  rw [e]; omega

/-- THE LEAST FINES: no possible set leaves less, and one leaves as much. -/
theorem leastO_ok {l : List Od} (h : Ok6 l) : (∀ T, Pos (dyl l) l.length T → leastO l ≤ tot l - ws (fnl l) T l.length) ∧ ∃ T, Pos (dyl l) l.length T ∧ leastO l = tot l - ws (fnl l) T l.length := by
  obtain ⟨c1, c2, _, c4⟩ := lastO_le (l := l) (m := 0) (by omega) (by omega) fun o ho => (h.all o ho).1
  have hL : ∀ i, i < l.length → dyl l i ≤ (lastO l).toNat := fun i hi => by
    have := c4 _ (List.getElem_mem hi)
    have e : dyl l i = (l[i]).1.toNat := by simp [dyl, List.getD, List.getElem?_eq_getElem hi]
    rw [e]; unfold lastO; omega
  obtain ⟨o1, T, o2, o3⟩ := run_opt (dy := dyl l) (f := fnl l) (n := l.length) (fun i hi => (fnl_rng (fun o ho => (h.all o ho).2) hi).1) hL
  have e := runO_run (fun o ho => (h.all o ho).1.1) (lastO l).toNat []
  rw [List.map_nil] at e
  unfold leastO
  rw [sumO_tot, e]
  exact ⟨fun T hT => by have := o1 T hT; omega, T, o2, by rw [o3]⟩

end Go.Proofs.Ytbblnbolabpfmaa

namespace Go.Proofs.Ytbblnbolabpfmaa
open Go.RowKit
set_option linter.unusedVariables false

/-! ### bits -/
theorem wrap_i64 {n : Nat} (h : n < 9223372036854775808) : IntKind.wrap .i64 (n : Int) = n := w64_nat h
theorem or_bits (k a b : Nat) (ha : a < 2 ^ k) (hb : b < 2 ^ k) : ((BitVec.ofInt k (a : Int)) ||| (BitVec.ofInt k (b : Int))).toNat = a ||| b := by
  rw [BitVec.ofInt_natCast, BitVec.ofInt_natCast, BitVec.toNat_or, BitVec.toNat_ofNat, BitVec.toNat_ofNat, Nat.mod_eq_of_lt ha, Nat.mod_eq_of_lt hb]
theorem and_bits (k a b : Nat) (ha : a < 2 ^ k) (hb : b < 2 ^ k) : ((BitVec.ofInt k (a : Int)) &&& (BitVec.ofInt k (b : Int))).toNat = a &&& b := by
  rw [BitVec.ofInt_natCast, BitVec.ofInt_natCast, BitVec.toNat_and, BitVec.toNat_ofNat, BitVec.toNat_ofNat, Nat.mod_eq_of_lt ha, Nat.mod_eq_of_lt hb]
theorem p62 : (2 : Nat) ^ 62 = 4611686018427387904 := by decide
theorem p64 : (2 : Nat) ^ 64 = 18446744073709551616 := by decide
theorem bOr_i64 {a b : Nat} (ha : a < 4611686018427387904) (hb : b < 4611686018427387904) : bOr .i64 (a : Int) (b : Int) = ((a ||| b : Nat) : Int) := by
  have h : a ||| b < 2 ^ 62 := Nat.or_lt_two_pow (by rw [p62]; exact ha) (by rw [p62]; exact hb)
  rw [p62] at h
  have e := or_bits 64 a b (by rw [p64]; omega) (by rw [p64]; omega)
  show IntKind.wrap .i64 ((((BitVec.ofInt 64 (a : Int)) ||| (BitVec.ofInt 64 (b : Int))).toNat : Nat) : Int) = _
  rw [e]
  exact wrap_i64 (by omega)
theorem bAnd_i64 {a b : Nat} (ha : a < 4611686018427387904) (hb : b < 4611686018427387904) : bAnd .i64 (a : Int) (b : Int) = ((a &&& b : Nat) : Int) := by
  have h : a &&& b < 2 ^ 62 := Nat.and_lt_two_pow a (by rw [p62]; exact hb)
  rw [p62] at h
  have e := and_bits 64 a b (by rw [p64]; omega) (by rw [p64]; omega)
  show IntKind.wrap .i64 ((((BitVec.ofInt 64 (a : Int)) &&& (BitVec.ofInt 64 (b : Int))).toNat : Nat) : Int) = _
  rw [e]
  exact wrap_i64 (by omega)
theorem pow_cast (c : Nat) : ((2 : Int) ^ c) = ((2 ^ c : Nat) : Int) := by simp
theorem fdiv_pow (s c : Nat) : Int.fdiv (s : Int) ((2 : Int) ^ c) = ((s / 2 ^ c : Nat) : Int) := by
  rw [pow_cast, Int.fdiv_eq_ediv_of_nonneg _ (Int.natCast_nonneg _), Int.natCast_ediv]
theorem bit_of (s c : Nat) : ((((s / 2 ^ c &&& 1 : Nat)) : Int) == 1) = s.testBit c := by
  rw [Nat.and_one_is_mod, Nat.testBit_eq_decide_div_mod_eq]
  by_cases h : s / 2 ^ c % 2 = 1
  · simp [h]
  · have : s / 2 ^ c % 2 = 0 := by omega
    simp [this]
theorem bit_i64 {s c : Nat} (hs : s < 4611686018427387904) (hc : c ≤ 64) : ((bAnd .i64 (Int.fdiv (s : Int) (2 ^ min (Int.toNat (c : Int)) 64)) 1) == 1) = s.testBit c := by
  rw [Int.toNat_natCast, Nat.min_eq_left hc, fdiv_pow]
  have h := bAnd_i64 (a := s / 2 ^ c) (b := 1) (Nat.lt_of_le_of_lt (Nat.div_le_self _ _) hs) (by decide)
  rw [show ((1 : Nat) : Int) = 1 from rfl] at h
  rw [h]; exact bit_of s c
theorem one_i64 {c : Nat} (hc : c < 62) : IntKind.wrap .i64 (1 * 2 ^ min (Int.toNat (c : Int)) 64) = ((2 ^ c : Nat) : Int) := by
  rw [Int.toNat_natCast, Nat.min_eq_left (by omega), Int.one_mul, pow_cast]
  have h : 2 ^ c < 2 ^ 62 := Nat.pow_lt_pow_right (by decide) hc
  rw [p62] at h
  exact wrap_i64 (by omega)


theorem bit0_i64 {s c : Nat} (hs : s < 4611686018427387904) (hc : c ≤ 64) : ((bAnd .i64 (Int.fdiv (s : Int) (2 ^ min (Int.toNat (c : Int)) 64)) 1) == 0) = !s.testBit c := by
  rw [← bit_i64 hs hc]
  rw [Int.toNat_natCast, Nat.min_eq_left hc, fdiv_pow]
  have h := bAnd_i64 (a := s / 2 ^ c) (b := 1) (Nat.lt_of_le_of_lt (Nat.div_le_self _ _) hs) (by decide)
  rw [show ((1 : Nat) : Int) = 1 from rfl] at h
  rw [h, Nat.and_one_is_mod]
  have : s / 2 ^ c % 2 = 0 ∨ s / 2 ^ c % 2 = 1 := by omega
  rcases this with e | e <;> rw [e] <;> rfl

/-- The set of a mask. -/
def tb (k : Nat) : Nat → Bool := fun i => k.testBit i

/-! ### the first overfull day -/
def fod (dy : Nat → Nat) (n : Nat) (S : Nat → Bool) : Nat → Nat → Int
  | 0, _ => 0
  | m + 1, d => if d < by_ dy n S d then (d : Int) else fod dy n S m (d + 1)

theorem fod_FO {dy : Nat → Nat} {n : Nat} {S : Nat → Bool} (h : ∀ i, i < n → 1 ≤ dy i ∧ dy i ≤ 60) : ∀ (m d : Nat), d + m = 61 → 1 ≤ d → (∀ d', d' < d → by_ dy n S d' ≤ d') → FO dy n S (fod dy n S m d)
  | 0, d, e, h1, hd => .inl ⟨rfl, fun d' => by
    by_cases q : d' < d
    · exact hd d' q
    · have e1 : by_ dy n S d' = by_ dy n S 60 := cnt_congr fun i hi => by
        have := (h i hi).2
        rw [decide_eq_true (show dy i ≤ d' by omega), decide_eq_true (show dy i ≤ 60 by omega)]
      have := hd 60 (by omega)
      omega⟩
  | m + 1, d, e, h1, hd => by
    rw [fod]
    split
    · rename_i hlt
      exact .inr ⟨d, rfl, h1, hlt, hd⟩
    · rename_i hlt
      refine fod_FO h m (d + 1) (by omega) (by omega) fun d' hd' => ?_
      by_cases q : d' < d
      · exact hd d' q
      · have : d' = d := by omega
        subst this; omega

theorem by_0 {dy : Nat → Nat} {n : Nat} {S : Nat → Bool} (h : ∀ i, i < n → 1 ≤ dy i) : by_ dy n S 0 ≤ 0 := by
  have : by_ dy n S 0 = 0 := cnt_zero fun i hi => by
    have := h i hi
    rw [decide_eq_false (show ¬ dy i ≤ 0 by omega), Bool.and_false]
  omega

def ofm (l : List Od) (k : Nat) : Int := fod (dyl l) l.length (tb k) 60 1

theorem Ok6.dy {l : List Od} (h : Ok6 l) {i : Nat} (hi : i < l.length) : 1 ≤ dyl l i ∧ dyl l i ≤ 60 := dyl_rng (M := 60) (fun o ho => (h.all o ho).1) hi
theorem Ok6.fn {l : List Od} (h : Ok6 l) {i : Nat} (hi : i < l.length) : 0 ≤ fnl l i ∧ fnl l i ≤ (10000 : Nat) := fnl_rng (M := 10000) (fun o ho => (h.all o ho).2) hi

theorem ofm_FO {l : List Od} (h : Ok6 l) (k : Nat) : FO (dyl l) l.length (tb k) (ofm l k) := fod_FO (fun i hi => h.dy hi) 60 1 rfl (by omega) fun d' hd => by
  have : d' = 0 := by omega
  subst this; exact by_0 fun i hi => (h.dy hi).1

def mok (k : Int) : Prop := 0 ≤ k ∧ k < 4611686018427387904
instance (k : Int) : Decidable (mok k) := by unfold mok; infer_instance
def B52 (l : List Od) (k : Int) : Option Int := if Ok6 l ∧ mok k then some (ofm l k.toNat) else none

/-! ### fines of a mask -/
def fim (l : List Od) (k : Nat) : Int := ws (fnl l) (fun i => !tb k i) l.length
def B75 (l : List Od) (k : Int) : Option Int := if Ok6 l ∧ mok k then some (fim l k.toNat) else none

theorem ws_rng {f : Nat → Int} {p : Nat → Bool} : ∀ {n : Nat}, (∀ i, i < n → 0 ≤ f i ∧ f i ≤ (10000 : Nat)) → 0 ≤ ws f p n ∧ ws f p n ≤ 10000 * n
  | 0, _ => by simp [ws]
  | n + 1, h => by
    obtain ⟨a, b⟩ := ws_rng (p := p) (n := n) fun i hi => h i (by omega)
    have := h n (by omega)
    simp only [ws]
    cases p n <;> simp <;> omega

theorem fim_tot (l : List Od) (k : Nat) : fim l k = tot l - ws (fnl l) (tb k) l.length := by
  have h := ws_split (fnl l) (fun _ => true) (tb k) l.length
  simp only [Bool.true_and] at h
  have e : ws (fnl l) (fun i => tb k i) l.length = ws (fnl l) (tb k) l.length := rfl
  unfold fim tot
  rw [e] at h
  omega

/-! ### all sets are tried -/
def bst (l : List Od) : Nat → Int × List Int
  | 0 => (fim l 0, [])
  | k + 1 => if (bst l k).1 < fim l k then bst l k else if 0 < ofm l k then bst l k else if fim l k < (bst l k).1 then (fim l k, [(k : Int)]) else ((bst l k).1, (bst l k).2 ++ [(k : Int)])
def B54 (l : List Od) : Option (Int × List Int) := if Ok6 l then some (bst l (2 ^ l.length)) else none

theorem pow_12 {n : Nat} (h : n ≤ 12) : 2 ^ n ≤ 4096 := by
  have : 2 ^ n ≤ 2 ^ 12 := Nat.pow_le_pow_right (by decide) h
  simpa using this

theorem bst_len (l : List Od) : ∀ k, (bst l k).2.length ≤ k
  | 0 => Nat.le_refl _
  | k + 1 => by
    have := bst_len l k
    rw [bst]
    split
    · omega
    · split
      · omega
      · split
        · simp
        · simp; omega

/-- A possible mask. -/
def psm (l : List Od) (k : Nat) : Bool := decide (ofm l k = 0)
theorem psm_iff {l : List Od} (h : Ok6 l) (k : Nat) : psm l k = true ↔ Pos (dyl l) l.length (tb k) := by
  rw [psm, decide_eq_true_eq]; exact (ofm_FO h k).zero
theorem ofm_nn {l : List Od} (h : Ok6 l) (k : Nat) : 0 ≤ ofm l k := by
  rcases ofm_FO h k with ⟨e, _⟩ | ⟨d, e, _⟩ <;> rw [e] <;> omega

theorem tb_0 (i : Nat) : tb 0 i = false := Nat.zero_testBit i

structure BI (l : List Od) (K : Nat) : Prop where
  low : ∀ k, k < K → psm l k = true → (bst l K).1 ≤ fim l k
  at_ : (∃ k, k < K ∧ psm l k = true ∧ fim l k = (bst l K).1) ∨ K = 0
  set : (bst l K).2 = ((List.range K).filter fun k => psm l k && decide (fim l k = (bst l K).1)).map Int.ofNat

theorem bst_ok {l : List Od} (h : Ok6 l) : ∀ K, BI l K
  | 0 => ⟨fun k hk => by omega, .inr rfl, rfl⟩
  | K + 1 => by
    have ih := bst_ok h K
    have hnn := ofm_nn h K
    -- nothing new
    have skip : bst l (K + 1) = bst l K → (psm l K = true → (bst l K).1 < fim l K) → (psm l K = true ∨ 0 < K) → BI l (K + 1) := fun e hs hK => by
      refine ⟨fun k hk hp => ?_, ?_, ?_⟩
      · rw [e]
        by_cases q : k < K
        · exact ih.low k q hp
        · have : k = K := by omega
          subst this; have := hs hp; omega
      · rw [e]
        rcases ih.at_ with ⟨k, a, b⟩ | rfl
        · exact .inl ⟨k, by omega, b⟩
        · rcases hK with hK | hK
          · have := hs hK
            exact absurd this (Int.lt_irrefl _)
          · omega
      · rw [e, ih.set, List.range_succ, List.filter_append]
        have : (psm l K && decide (fim l K = (bst l K).1)) = false := by
          cases hp : psm l K with
          | false => rfl
          | true => have := hs hp; simp; omega
        simp [this, ← ih.set]
    have z0 : K = 0 → psm l K = true := fun e => by
      subst e
      rw [psm_iff h]
      exact Pos.empty.sub fun i _ hi => by rw [tb_0] at hi; exact hi
    have hK : psm l K = true ∨ 0 < K := by
      by_cases q : K = 0
      · exact .inl (z0 q)
      · exact .inr (by omega)
    rw [bst] at skip
    by_cases q1 : (bst l K).1 < fim l K
    · rw [if_pos q1] at skip; exact skip rfl (fun _ => q1) hK
    · rw [if_neg q1] at skip
      by_cases q2 : 0 < ofm l K
      · rw [if_pos q2] at skip
        have hp : psm l K = false := decide_eq_false (by omega)
        exact skip rfl (fun hc => by rw [hp] at hc; cases hc) hK
      · rw [if_neg q2] at skip
        have hp : psm l K = true := decide_eq_true (by omega)
        by_cases q3 : fim l K < (bst l K).1
        · have e : bst l (K + 1) = (fim l K, [(K : Int)]) := by rw [bst, if_neg q1, if_neg q2, if_pos q3]
          refine ⟨fun k hk hpk => ?_, .inl ⟨K, by omega, hp, by rw [e]⟩, ?_⟩
          · rw [e]
            by_cases q : k < K
            · have := ih.low k q hpk; show fim l K ≤ _; omega
            · have : k = K := by omega
              subst this; exact Int.le_refl _
          · rw [e]
            show [(K : Int)] = _
            rw [List.range_succ, List.filter_append]
            have : ((List.range K).filter fun k => psm l k && decide (fim l k = fim l K)) = [] := List.filter_eq_nil_iff.2 fun k hk => by
              have hk := List.mem_range.1 hk
              simp only [Bool.and_eq_true, decide_eq_true_eq, not_and]
              intro hpk
              have := ih.low k hk hpk
              omega
            simp [this, hp]
        · have e : bst l (K + 1) = ((bst l K).1, (bst l K).2 ++ [(K : Int)]) := by rw [bst, if_neg q1, if_neg q2, if_neg q3]
          refine ⟨fun k hk hpk => ?_, .inl ⟨K, by omega, hp, by rw [e]; show fim l K = (bst l K).1; omega⟩, ?_⟩
          · rw [e]
            by_cases q : k < K
            · exact ih.low k q hpk
            · have : k = K := by omega
              subst this; show (bst l k).1 ≤ _; omega
          · rw [e]
            show (bst l K).2 ++ [(K : Int)] = ((List.range (K + 1)).filter fun k => psm l k && decide (fim l k = (bst l K).1)).map Int.ofNat
            rw [List.range_succ, List.filter_append, List.map_append, ← ih.set]
            have : decide (fim l K = (bst l K).1) = true := decide_eq_true (by omega)
            simp [hp, this]

/-- The mask of a set. -/
def maskT (T : Nat → Bool) : Nat → Nat
  | 0 => 0
  | n + 1 => maskT T n ||| cond (T n) (2 ^ n) 0

theorem maskT_lt (T : Nat → Bool) : ∀ n, maskT T n < 2 ^ n
  | 0 => by simp [maskT]
  | n + 1 => by
    rw [maskT]
    refine Nat.or_lt_two_pow (Nat.lt_of_lt_of_le (maskT_lt T n) (Nat.pow_le_pow_right (by decide) (by omega))) ?_
    cases T n
    · exact Nat.two_pow_pos _
    · exact Nat.pow_lt_pow_right (by decide) (by omega)

theorem maskT_bit (T : Nat → Bool) : ∀ n i, tb (maskT T n) i = (decide (i < n) && T i)
  | 0, i => by simp [maskT, tb]
  | n + 1, i => by
    have ih := maskT_bit T n i
    unfold tb at ih ⊢
    rw [maskT, Nat.testBit_or, ih]
    by_cases h : n = i
    · subst h
      cases T n <;> simp
    · have h1 : (cond (T n) (2 ^ n) 0).testBit i = false := by
        cases T n
        · simp
        · rw [cond_true, Nat.testBit_two_pow]; simpa using h
      rw [h1, Bool.or_false]
      by_cases h2 : i < n
      · rw [decide_eq_true h2, decide_eq_true (show i < n + 1 by omega)]
      · rw [decide_eq_false h2, decide_eq_false (show ¬ i < n + 1 by omega)]

/-- The best. -/
def bestm (l : List Od) : Int := (bst l (2 ^ l.length)).1
/-- The best sets. -/
def BestS (l : List Od) (T : Nat → Bool) : Prop := Pos (dyl l) l.length T ∧ ws (fnl l) T l.length = tot l - leastO l

theorem Pos.congr {dy : Nat → Nat} {n : Nat} {S T : Nat → Bool} (h : Pos dy n S) (hst : ∀ i, i < n → T i = S i) : Pos dy n T := h.sub fun i hi q => by rw [← hst i hi]; exact q
theorem BestS.congr {l : List Od} {S T : Nat → Bool} (h : BestS l S) (hst : ∀ i, i < l.length → T i = S i) : BestS l T := ⟨h.1.congr hst, by rw [ws_congr hst fun _ _ _ => rfl]; exact h.2⟩

theorem best_least {l : List Od} (h : Ok6 l) : bestm l = leastO l := by
  obtain ⟨o1, T, o2, o3⟩ := leastO_ok h
  have hb := bst_ok h (2 ^ l.length)
  refine Int.le_antisymm ?_ ?_
  · -- the set T has a mask
    have hbit : ∀ i, i < l.length → tb (maskT T l.length) i = T i := fun i hi => by rw [maskT_bit, decide_eq_true hi, Bool.true_and]
    have hp : psm l (maskT T l.length) = true := (psm_iff h _).2 (o2.congr hbit)
    have := hb.low _ (maskT_lt T l.length) hp
    rw [fim_tot, ws_congr hbit fun _ _ _ => rfl, ← o3] at this
    exact this
  · rcases hb.at_ with ⟨k, a, b, c⟩ | e
    · have := o1 (tb k) ((psm_iff h k).1 b)
      unfold bestm
      rw [← c, fim_tot]; exact this
    · have := Nat.two_pow_pos l.length; omega

/-- The masks of the best sets. -/
def bests (l : List Od) : List Nat := (List.range (2 ^ l.length)).filter fun k => psm l k && decide (fim l k = leastO l)
theorem bst_bests {l : List Od} (h : Ok6 l) : bst l (2 ^ l.length) = (leastO l, (bests l).map Int.ofNat) := by
  have hb := bst_ok h (2 ^ l.length)
  have e : (bst l (2 ^ l.length)).1 = leastO l := best_least h
  have := hb.set
  rw [e] at this
  exact Prod.ext e this
theorem bests_mem {l : List Od} (h : Ok6 l) {k : Nat} : k ∈ bests l ↔ k < 2 ^ l.length ∧ BestS l (tb k) := by
  unfold bests BestS
  rw [List.mem_filter, List.mem_range, Bool.and_eq_true, decide_eq_true_eq, psm_iff h, fim_tot]
  constructor
  · rintro ⟨a, b, c⟩; exact ⟨a, b, by omega⟩
  · rintro ⟨a, b, c⟩; exact ⟨a, b, by omega⟩
theorem bests_mask {l : List Od} (h : Ok6 l) {T : Nat → Bool} (hT : BestS l T) : maskT T l.length ∈ bests l := by
  rw [bests_mem h]
  exact ⟨maskT_lt _ _, hT.congr fun i hi => by rw [maskT_bit, decide_eq_true hi, Bool.true_and]⟩
theorem best_ex {l : List Od} (h : Ok6 l) : ∃ T, BestS l T := by
  obtain ⟨_, T, o2, o3⟩ := leastO_ok h
  exact ⟨T, o2, by omega⟩
theorem bests_ne {l : List Od} (h : Ok6 l) : bests l ≠ [] := by
  obtain ⟨T, hT⟩ := best_ex h
  intro e
  have := bests_mask h hT
  rw [e] at this; cases this

end Go.Proofs.Ytbblnbolabpfmaa

namespace Go.Proofs.Ytbblnbolabpfmaa
open Go.RowKit
set_option linter.unusedVariables false

theorem OkO.six {l : List Od} (h : OkO l) : Ok6 l := ⟨h.len, fun o ho => by have := h.all o ho; omega⟩
theorem okO_of {l : List Od} (h : ckO l = 0) : Ok6 l := (ckO_ok h).six
theorem bne_F {x : Int} (h : x = 0) : (x != 0) = false := by simp [h]
theorem bne_T {x : Int} (h : ¬ x = 0) : (x != 0) = true := by simp [h]
theorem beq_F {x : Int} (h : ¬ x = 0) : (x == 0) = false := by simp [h]
theorem beq_T {x : Int} (h : x = 0) : (x == 0) = true := by simp [h]

/-! ### Overfull -/
theorem tb_or (a b i : Nat) : tb (a ||| b) i = (tb a i || tb b i) := Nat.testBit_or _ _ _
theorem tb_pow (c i : Nat) : tb (2 ^ c) i = decide (c = i) := Nat.testBit_two_pow
/-! ### Least -/
def lea (l : List Od) : Int × Int := if ckO l = 0 then (leastO l, 0) else (0, ckO l)
def B18 (l : List Od) : Option (Int × Int) := if l.length ≤ 1000 then some (lea l) else none
theorem B53_ok {l : List Od} (h : Ok6 l) : B53 l = some (leastO l) := if_pos h
theorem B54_ok {l : List Od} (h : Ok6 l) : B54 l = some (leastO l, (bests l).map Int.ofNat) := by rw [B54, if_pos h, bst_bests h]
theorem KB18 : FnOk Try.prog 18 (F18 B18) := ok18 B23 B53 KB23 KB53 B18 fun l r h => ⟨0, by
  simp only [B18] at h
  split at h
  · rename_i hl
    rw [← h, m18, B23, if_pos hl, Option.bind_some, lea]
    by_cases hc : ckO l = 0
    · rw [if_pos hc, bne_F hc, cond_false, B53_ok (okO_of hc), Option.bind_some]
    · rw [if_neg hc, bne_T hc, cond_true]
  · cases h⟩
/-! ### Set -/
def stO (l : List Od) : List Int × Int := if ckO l = 0 then (greedy l [], 0) else ([], ckO l)
def B20 (l : List Od) : Option (List Int × Int) := if l.length ≤ 1000 then some (stO l) else none
theorem B55_ok {l : List Od} (h : Ok6 l) : B55 l = some (greedy l []) := if_pos ⟨by have := h.len; omega, by simp, fun _ h => by cases h⟩
theorem KB20 : FnOk Try.prog 20 (F20 B20) := ok20 B23 B55 KB23 KB55 B20 fun l r h => ⟨0, by
  simp only [B20] at h
  split at h
  · rename_i hl
    rw [← h, m20, B23, if_pos hl, Option.bind_some, stO]
    by_cases hc : ckO l = 0
    · rw [if_pos hc, bne_F hc, cond_false, B55_ok (okO_of hc), Option.bind_some]
    · rw [if_neg hc, bne_T hc, cond_true]
  · cases h⟩

/-- The numbers from t on that have p. -/
def lstF (p : Nat → Bool) : Nat → Nat → List Int
  | 0, _ => []
  | m + 1, t => cond (p t) ((t : Int) :: lstF p m (t + 1)) (lstF p m (t + 1))
def lstM (k : Nat) : List Int := lstF (tb k) 12 0

theorem lstF_len (p : Nat → Bool) : ∀ m t, (lstF p m t).length ≤ m
  | 0, t => by simp [lstF]
  | m + 1, t => by
    rw [lstF]
    have := lstF_len p m (t + 1)
    cases p t <;> simp <;> omega
theorem lstF_mem {p : Nat → Bool} : ∀ {m t : Nat} {i : Int}, i ∈ lstF p m t ↔ (t : Int) ≤ i ∧ i < ((t + m : Nat) : Int) ∧ p i.toNat = true
  | 0, t, i => by simp only [lstF, List.not_mem_nil, false_iff]; omega
  | m + 1, t, i => by
    have ih := lstF_mem (p := p) (m := m) (t := t + 1) (i := i)
    rw [lstF]
    by_cases q : i = (t : Int)
    · subst q
      cases hp : p t with
      | true => simp [hp]; omega
      | false =>
        rw [cond_false, ih]
        simp only [Int.toNat_natCast, hp]
        constructor
        · intro h; omega
        · intro h; exact absurd h.2.2 (by decide)
    · have e : (t : Int) ≤ i ↔ ((t + 1 : Nat) : Int) ≤ i := by omega
      cases hp : p t with
      | true => rw [cond_true, List.mem_cons, ih, e]; constructor
                · rintro (h | h)
                  · exact absurd h q
                  · exact ⟨h.1, by omega, h.2.2⟩
                · intro h; exact .inr ⟨h.1, by omega, h.2.2⟩
      | false => rw [cond_false, ih, e]; constructor
                 · intro h; exact ⟨h.1, by omega, h.2.2⟩
                 · intro h; exact ⟨h.1, by omega, h.2.2⟩
theorem lstF_sorted (p : Nat → Bool) : ∀ m t, (lstF p m t).Pairwise (· < ·)
  | 0, t => .nil
  | m + 1, t => by
    rw [lstF]
    cases p t with
    | false => exact lstF_sorted p m (t + 1)
    | true => exact List.pairwise_cons.2 ⟨fun y hy => by have := lstF_mem.1 hy; omega, lstF_sorted p m (t + 1)⟩

theorem lstF_congr {p q : Nat → Bool} : ∀ {m t : Nat}, (∀ i, t ≤ i → i < t + m → p i = q i) → lstF p m t = lstF q m t
  | 0, t, _ => rfl
  | m + 1, t, h => by rw [lstF, lstF, h t (by omega) (by omega), lstF_congr fun i a b => h i (by omega) (by omega)]

theorem cnt_shift (p : Nat → Bool) : ∀ n, cnt p (n + 1) = (p 0).toNat + cnt (fun i => p (i + 1)) n
  | 0 => by simp [cnt]
  | n + 1 => by rw [cnt, cnt_shift p n]; simp only [cnt]; omega
theorem lstF_cnt (p : Nat → Bool) : ∀ m t, (lstF p m t).length = cnt (fun i => p (t + i)) m
  | 0, t => rfl
  | m + 1, t => by
    rw [lstF, cnt_shift]
    have ih := lstF_cnt p m (t + 1)
    have e : cnt (fun i => p (t + (i + 1))) m = cnt (fun i => p (t + 1 + i)) m := cnt_congr fun i _ => by rw [show t + (i + 1) = t + 1 + i by omega]
    rw [e, ← ih, Nat.add_zero]
    cases p t <;> simp <;> omega

/-- Two sorted lists with the same members. -/
theorem sorted_eq : ∀ {a b : List Int}, a.Pairwise (· < ·) → b.Pairwise (· < ·) → (∀ i, i ∈ a ↔ i ∈ b) → a = b
  | [], [], _, _, _ => rfl
  | [], y :: b, _, _, h => by have := (h y).2 (by simp); cases this
  | x :: a, [], _, _, h => by have := (h x).1 (by simp); cases this
  | x :: a, y :: b, ha, hb, h => by
    obtain ⟨a1, a2⟩ := List.pairwise_cons.1 ha
    obtain ⟨b1, b2⟩ := List.pairwise_cons.1 hb
    have hxy : x = y := by
      have h1 : x ∈ y :: b := (h x).1 (by simp)
      have h2 : y ∈ x :: a := (h y).2 (by simp)
      rcases List.mem_cons.1 h1 with e | h1
      · exact e
      · rcases List.mem_cons.1 h2 with e | h2
        · exact e.symm
        · have := a1 y h2; have := b1 x h1; omega
    subst hxy
    congr 1
    refine sorted_eq a2 b2 fun i => ?_
    constructor
    · intro hi
      rcases List.mem_cons.1 ((h i).1 (List.mem_cons_of_mem _ hi)) with e | hi'
      · have := a1 i hi; omega
      · exact hi'
    · intro hi
      rcases List.mem_cons.1 ((h i).2 (List.mem_cons_of_mem _ hi)) with e | hi'
      · have := b1 i hi; omega
      · exact hi'

theorem greedy_gr {l : List Od} (h : Ok6 l) : Ix l.length (greedy l []) ∧ Gr (dyl l) (fnl l) l.length (fun _ => false) (mem (greedy l [])) := by
  have := greedy_ix (l := l) (s := []) (fun o ho => (h.all o ho).1.1) ⟨(fun _ h => by cases h), List.Pairwise.nil⟩ (Pos.empty.sub fun _ _ h => by cases h)
  exact this
theorem greedy_best {l : List Od} (h : Ok6 l) : BestS l (mem (greedy l [])) := by
  obtain ⟨_, hg⟩ := greedy_gr h
  obtain ⟨o1, T, o2, o3⟩ := leastO_ok h
  refine ⟨hg.pos, ?_⟩
  have h1 := o1 _ hg.pos
  have h2 := hg.best (M := 10000) (fun i hi => h.fn hi) o2 (fun i _ h => by cases h)
  omega

theorem strict_of {s : List Int} (h1 : s.Pairwise (fun a b => decide (a ≤ b) = true)) (h2 : s.Nodup) : s.Pairwise (· < ·) :=
  (h1.and h2).imp fun {a b} h => by have := of_decide_eq_true h.1; have := h.2; omega

theorem lst_set {n : Nat} (hn : n ≤ 12) {s : List Int} (hs : Ix n s) (h1 : s.Pairwise (fun a b => decide (a ≤ b) = true)) {p : Nat → Bool} (hp : ∀ i, i < n → p i = mem s i) (hp2 : ∀ i, n ≤ i → p i = false) : lstF p 12 0 = s := by
  refine sorted_eq (lstF_sorted _ _ _) (strict_of h1 hs.nd) fun i => ?_
  rw [lstF_mem]
  constructor
  · rintro ⟨a, b, c⟩
    have hi : i.toNat < n := Nat.lt_of_not_le fun q => by rw [hp2 _ q] at c; cases c
    rw [hp _ hi] at c
    have : ((i.toNat : Nat) : Int) = i := by omega
    unfold mem at c
    rw [this] at c
    exact List.contains_iff_mem.1 c
  · intro hi
    have hr := hs.rng i hi
    refine ⟨by omega, by omega, ?_⟩
    rw [hp _ (by omega)]
    have : ((i.toNat : Nat) : Int) = i := by omega
    unfold mem
    rw [this]
    exact List.contains_iff_mem.2 hi

theorem tb_big {k n i : Nat} (hk : k < 2 ^ n) (hi : n ≤ i) : tb k i = false := Nat.testBit_lt_two_pow (Nat.lt_of_lt_of_le hk (Nat.pow_le_pow_right (by decide) hi))

theorem bests_len (l : List Od) : (bests l).length ≤ 2 ^ l.length := by
  unfold bests
  have := List.length_filter_le (fun k => psm l k && decide (fim l k = leastO l)) (List.range (2 ^ l.length))
  rw [List.length_range] at this; exact this

end Go.Proofs.Ytbblnbolabpfmaa

