/-
  Orders and days, in plain Lean: counts, possible sets, the last tight day.
-/
namespace Go.Proofs.Ytbblnbolabpfmaa

/-- How many numbers below n have p. -/
def cnt (p : Nat → Bool) : Nat → Nat
  | 0 => 0
  | n + 1 => cnt p n + (p n).toNat

theorem cnt_congr {p q : Nat → Bool} : ∀ {n : Nat}, (∀ i, i < n → p i = q i) → cnt p n = cnt q n
  | 0, _ => rfl
  | n + 1, h => by simp only [cnt]; rw [cnt_congr fun i hi => h i (by omega), h n (by omega)]

theorem cnt_le {p q : Nat → Bool} : ∀ {n : Nat}, (∀ i, i < n → p i = true → q i = true) → cnt p n ≤ cnt q n
  | 0, _ => Nat.le_refl _
  | n + 1, h => by
    simp only [cnt]
    have := cnt_le (n := n) fun i hi => h i (by omega)
    have := h n (by omega)
    cases hp : p n <;> cases hq : q n <;> simp_all <;> omega

theorem cnt_split (p q : Nat → Bool) : ∀ n : Nat, cnt p n = cnt (fun i => p i && q i) n + cnt (fun i => p i && !q i) n
  | 0 => rfl
  | n + 1 => by
    simp only [cnt]
    have := cnt_split p q n
    cases hp : p n <;> cases hq : q n <;> simp_all <;> omega

theorem cnt_or {p q : Nat → Bool} : ∀ {n : Nat}, (∀ i, i < n → p i = true → q i = false) → cnt (fun i => p i || q i) n = cnt p n + cnt q n
  | 0, _ => rfl
  | n + 1, h => by
    simp only [cnt]
    have := cnt_or (n := n) fun i hi => h i (by omega)
    have := h n (by omega)
    cases hp : p n <;> cases hq : q n <;> simp_all <;> omega

theorem cnt_one (p : Nat → Bool) (e : Nat) : ∀ n : Nat, cnt (fun i => p i && i == e) n = if e < n ∧ p e = true then 1 else 0
  | 0 => rfl
  | n + 1 => by
    simp only [cnt]
    rw [cnt_one p e n]
    by_cases h : n = e
    · subst h
      cases hp : p n <;> simp
    · have : (n == e) = false := by simpa using h
      rw [this, Bool.and_false]
      by_cases h1 : e < n
      · have : e < n + 1 := by omega
        simp [h1, this]
      · have : ¬ e < n + 1 := by omega
        simp [h1, this]

theorem cnt_zero {p : Nat → Bool} {n : Nat} (h : ∀ i, i < n → p i = false) : cnt p n = 0 := by
  rw [cnt_congr (q := fun _ => false) h]
  induction n with
  | zero => rfl
  | succ n ih => simp only [cnt, Bool.toNat_false, Nat.add_zero]; exact ih fun i hi => h i (by omega)

theorem cnt_ex {p q : Nat → Bool} : ∀ {n : Nat}, cnt p n < cnt q n → ∃ i, i < n ∧ q i = true ∧ p i = false
  | 0, h => by simp [cnt] at h
  | n + 1, h => by
    by_cases h1 : cnt p n < cnt q n
    · obtain ⟨i, a, b⟩ := cnt_ex h1; exact ⟨i, by omega, b⟩
    · refine ⟨n, by omega, ?_⟩
      simp only [cnt] at h
      cases hp : p n <;> cases hq : q n <;> simp_all <;> omega

theorem cnt_le_n (p : Nat → Bool) : ∀ n : Nat, cnt p n ≤ n
  | 0 => Nat.le_refl _
  | n + 1 => by simp only [cnt]; have := cnt_le_n p n; cases p n <;> simp <;> omega

/-- With one more. -/
def ins (p : Nat → Bool) (e : Nat) : Nat → Bool := fun i => p i || i == e
/-- With one less. -/
def del (p : Nat → Bool) (e : Nat) : Nat → Bool := fun i => p i && !(i == e)

theorem cnt_ins {p : Nat → Bool} {e n : Nat} (h : e < n) (hp : p e = false) (r : Nat → Bool) : cnt (fun i => ins p e i && r i) n = cnt (fun i => p i && r i) n + (r e).toNat := by
  have h1 : cnt (fun i => ins p e i && r i) n = cnt (fun i => (p i && r i) || (r i && i == e)) n := cnt_congr fun i _ => by
    simp only [ins]; cases p i <;> cases r i <;> simp
  rw [h1, cnt_or, cnt_one]
  · cases hr : r e <;> simp [h]
  · intro i hi hpi
    simp only [Bool.and_eq_true] at hpi
    cases hie : i == e
    · simp
    · have : i = e := by simpa using hie
      subst this; rw [hp] at hpi; simp at hpi

theorem cnt_del {p : Nat → Bool} {e n : Nat} (h : e < n) (hp : p e = true) (r : Nat → Bool) : cnt (fun i => del p e i && r i) n + (r e).toNat = cnt (fun i => p i && r i) n := by
  have h1 := cnt_split (fun i => p i && r i) (fun i => i == e) n
  have h2 : cnt (fun i => p i && r i && (i == e)) n = (r e).toNat := by
    rw [cnt_one (fun i => p i && r i) e n]; simp [h, hp]; cases r e <;> rfl
  have h3 : cnt (fun i => p i && r i && !(i == e)) n = cnt (fun i => del p e i && r i) n := cnt_congr fun i _ => by
    simp only [del]; cases p i <;> cases r i <;> simp
  omega

/-- A sum over those below n that have p. -/
def ws (f : Nat → Int) (p : Nat → Bool) : Nat → Int
  | 0 => 0
  | n + 1 => ws f p n + cond (p n) (f n) 0

theorem ws_congr {f g : Nat → Int} {p q : Nat → Bool} : ∀ {n : Nat}, (∀ i, i < n → p i = q i) → (∀ i, i < n → p i = true → f i = g i) → ws f p n = ws g q n
  | 0, _, _ => rfl
  | n + 1, h, hf => by
    simp only [ws]
    rw [ws_congr (fun i hi => h i (by omega)) (fun i hi => hf i (by omega)), ← h n (by omega)]
    cases hp : p n
    · simp
    · simp [hf n (by omega) hp]

theorem ws_split (f : Nat → Int) (p q : Nat → Bool) : ∀ n : Nat, ws f p n = ws f (fun i => p i && q i) n + ws f (fun i => p i && !q i) n
  | 0 => rfl
  | n + 1 => by
    simp only [ws]
    have := ws_split f p q n
    cases hp : p n <;> cases hq : q n <;> simp_all <;> omega

theorem ws_or (f : Nat → Int) {p q : Nat → Bool} : ∀ {n : Nat}, (∀ i, i < n → p i = true → q i = false) → ws f (fun i => p i || q i) n = ws f p n + ws f q n
  | 0, _ => rfl
  | n + 1, h => by
    simp only [ws]
    have := ws_or f (n := n) fun i hi => h i (by omega)
    have := h n (by omega)
    cases hp : p n <;> cases hq : q n <;> simp_all <;> omega

theorem ws_one (f : Nat → Int) (p : Nat → Bool) (e : Nat) : ∀ n : Nat, ws f (fun i => p i && i == e) n = if e < n ∧ p e = true then f e else 0
  | 0 => by simp [ws]
  | n + 1 => by
    have ih := ws_one f p e n
    simp only [ws]
    rw [ih]
    by_cases h : n = e
    · subst h
      cases hp : p n <;> simp
    · have : (n == e) = false := by simpa using h
      simp only [this, Bool.and_false, cond_false]
      by_cases h1 : e < n
      · have : e < n + 1 := by omega
        simp [h1, this]
      · have : ¬ e < n + 1 := by omega
        simp [h1, this]

theorem ws_ins (f : Nat → Int) {p : Nat → Bool} {e n : Nat} (h : e < n) (hp : p e = false) : ws f (ins p e) n = ws f p n + f e := by
  have h1 : ws f (ins p e) n = ws f (fun i => p i || (true && i == e)) n := ws_congr (fun i _ => by simp [ins]) (fun _ _ _ => rfl)
  rw [h1, ws_or f, ws_one f (fun _ => true)]
  · simp [h]
  · intro i hi hpi
    cases hie : i == e
    · simp
    · have : i = e := by simpa using hie
      subst this; rw [hp] at hpi; cases hpi

theorem ws_del (f : Nat → Int) {p : Nat → Bool} {e n : Nat} (h : e < n) (hp : p e = true) : ws f (del p e) n + f e = ws f p n := by
  have h1 := ws_split f p (fun i => i == e) n
  rw [ws_one f p e n] at h1
  simp only [h, hp, true_and, if_true] at h1
  show ws f (fun i => p i && !(i == e)) n + f e = ws f p n
  omega

theorem ws_nonneg {f : Nat → Int} {p : Nat → Bool} : ∀ {n : Nat}, (∀ i, i < n → p i = true → 0 ≤ f i) → 0 ≤ ws f p n
  | 0, _ => by simp [ws]
  | n + 1, h => by
    simp only [ws]
    have h1 := ws_nonneg (n := n) fun i hi => h i (by omega)
    have h2 := h n (by omega)
    cases hp : p n
    · simpa using h1
    · have := h2 hp; simp only [cond_true]; omega

section
variable (dy : Nat → Nat) (n : Nat)

/-- Orders of a set that are due by a day. -/
def by_ (S : Nat → Bool) (d : Nat) : Nat := cnt (fun i => S i && decide (dy i ≤ d)) n
/-- Orders of a set that are due later. -/
def aft (S : Nat → Bool) (d : Nat) : Nat := cnt (fun i => S i && !decide (dy i ≤ d)) n

/-- A set that can be on time. -/
def Pos (S : Nat → Bool) : Prop := ∀ d, by_ dy n S d ≤ d

theorem by_aft (S : Nat → Bool) (d : Nat) : by_ dy n S d + aft dy n S d = cnt S n := (cnt_split S _ n).symm

theorem by_le {S T : Nat → Bool} (h : ∀ i, i < n → S i = true → T i = true) (d : Nat) : by_ dy n S d ≤ by_ dy n T d := cnt_le fun i hi hp => by
  simp only [Bool.and_eq_true] at hp ⊢; exact ⟨h i hi hp.1, hp.2⟩
theorem aft_le {S T : Nat → Bool} (h : ∀ i, i < n → S i = true → T i = true) (d : Nat) : aft dy n S d ≤ aft dy n T d := cnt_le fun i hi hp => by
  simp only [Bool.and_eq_true] at hp ⊢; exact ⟨h i hi hp.1, hp.2⟩
theorem by_mono (S : Nat → Bool) {d d' : Nat} (h : d ≤ d') : by_ dy n S d ≤ by_ dy n S d' := cnt_le fun i hi hp => by
  simp only [Bool.and_eq_true, decide_eq_true_eq] at hp ⊢; exact ⟨hp.1, by omega⟩

variable {dy n}

theorem Pos.sub {S T : Nat → Bool} (h : Pos dy n T) (hs : ∀ i, i < n → S i = true → T i = true) : Pos dy n S := fun d => Nat.le_trans (by_le dy n hs d) (h d)

theorem Pos.empty : Pos dy n fun _ => false := fun d => by
  have : by_ dy n (fun _ => false) d = 0 := cnt_zero fun i _ => by simp
  omega

theorem by_ins {S : Nat → Bool} {e : Nat} (he : e < n) (hS : S e = false) (d : Nat) : by_ dy n (ins S e) d = by_ dy n S d + (if dy e ≤ d then 1 else 0) := by
  unfold by_
  rw [cnt_ins he hS]
  by_cases h : dy e ≤ d <;> simp [h]

theorem by_del {S : Nat → Bool} {e : Nat} (he : e < n) (hS : S e = true) (d : Nat) : by_ dy n (del S e) d + (if dy e ≤ d then 1 else 0) = by_ dy n S d := by
  unfold by_
  rw [← cnt_del he hS]
  by_cases h : dy e ≤ d <;> simp [h]

/-- A day up to which no more can be done. -/
def Tight (dy : Nat → Nat) (n : Nat) (S : Nat → Bool) (d : Nat) : Prop := by_ dy n S d = d

theorem tight0 {S : Nat → Bool} (h : Pos dy n S) : Tight dy n S 0 := by
  have := h 0; unfold Tight; omega

theorem tight_le {S : Nat → Bool} {d : Nat} (h : Tight dy n S d) : d ≤ n := by
  have : by_ dy n S d ≤ n := cnt_le_n _ n
  unfold Tight at h; omega

/-- THE LAST TIGHT DAY. -/
theorem last_tight {S : Nat → Bool} (h : Pos dy n S) : ∃ D, Tight dy n S D ∧ ∀ d, Tight dy n S d → d ≤ D := by
  have key : ∀ k, ∃ D, Tight dy n S D ∧ ∀ d, d ≤ k → Tight dy n S d → d ≤ D := by
    intro k
    induction k with
    | zero => exact ⟨0, tight0 h, fun d hd _ => hd⟩
    | succ k ih =>
      obtain ⟨D, h1, h2⟩ := ih
      by_cases hk : Tight dy n S (k + 1)
      · exact ⟨k + 1, hk, fun d hd _ => hd⟩
      · refine ⟨D, h1, fun d hd ht => ?_⟩
        by_cases e : d = k + 1
        · subst e; exact absurd ht hk
        · exact h2 d (by omega) ht
  obtain ⟨D, h1, h2⟩ := key n
  exact ⟨D, h1, fun d hd => h2 d (tight_le hd) hd⟩

theorem Tight.up {S T : Nat → Bool} (hs : ∀ i, i < n → S i = true → T i = true) (hT : Pos dy n T) {d : Nat} (h : Tight dy n S d) : Tight dy n T d := by
  have := by_le dy n hs d
  have := hT d
  unfold Tight at *; omega

/-- One more is possible just if it is due behind the last tight day. -/
theorem ins_pos {S : Nat → Bool} (h : Pos dy n S) {e : Nat} (he : e < n) (hS : S e = false) : Pos dy n (ins S e) ↔ ∀ d, dy e ≤ d → ¬ Tight dy n S d := by
  constructor
  · intro hp d hd ht
    have := hp d
    rw [by_ins he hS] at this
    simp only [hd, if_true] at this
    unfold Tight at ht; omega
  · intro hn d
    rw [by_ins he hS]
    have h1 := h d
    by_cases hd : dy e ≤ d
    · have := hn d hd
      unfold Tight at this
      simp only [hd, if_true]; omega
    · simp only [hd, if_false]; omega

/-- Nothing of E can be added. -/
def Max (dy : Nat → Nat) (n : Nat) (E S : Nat → Bool) : Prop := ∀ e, e < n → E e = true → S e = false → ¬ Pos dy n (ins S e)

/-- Behind the last tight day a set to which nothing can be added has everything. -/
theorem Max.aft {E S : Nat → Bool} (hp : Pos dy n S) (hm : Max dy n E S) (hsub : ∀ i, i < n → S i = true → E i = true) {D : Nat} (hD : ∀ d, Tight dy n S d → d ≤ D) : aft dy n S D = aft dy n E D := by
  refine Nat.le_antisymm (aft_le dy n hsub D) (cnt_le fun i hi hq => ?_)
  simp only [Bool.and_eq_true, Bool.not_eq_true', decide_eq_false_iff_not] at hq ⊢
  refine ⟨?_, hq.2⟩
  cases hs : S i with
  | true => rfl
  | false =>
    exfalso
    refine hm i hi hq.1 hs ((ins_pos hp hi hs).2 fun d hd ht => ?_)
    have := hD d ht; omega

/-- THE RANK: no possible set is larger. -/
theorem Max.rank {E S T : Nat → Bool} (hp : Pos dy n S) (hm : Max dy n E S) (hsub : ∀ i, i < n → S i = true → E i = true) (hT : Pos dy n T) (hTE : ∀ i, i < n → T i = true → E i = true) : cnt T n ≤ cnt S n := by
  obtain ⟨D, h1, h2⟩ := last_tight hp
  have h3 := hm.aft hp hsub h2
  have h4 := aft_le dy n hTE D
  have h5 := hT D
  have h6 := by_aft dy n T D
  have h7 := by_aft dy n S D
  unfold Tight at h1; omega

/-- Two sets of one size to which nothing can be added have the same last tight day. -/
theorem Max.same {E S T : Nat → Bool} (hp : Pos dy n S) (hm : Max dy n E S) (hsub : ∀ i, i < n → S i = true → E i = true) (hT : Pos dy n T) (hTE : ∀ i, i < n → T i = true → E i = true) (hc : cnt T n = cnt S n) {D : Nat} (h1 : Tight dy n S D) (h2 : ∀ d, Tight dy n S d → d ≤ D) : Tight dy n T D := by
  have h3 := hm.aft hp hsub h2
  have h4 := aft_le dy n hTE D
  have h5 := hT D
  have h6 := by_aft dy n T D
  have h7 := by_aft dy n S D
  unfold Tight at *; omega

/-- THE EXCHANGE: what cannot be added takes the place of something due early enough. -/
theorem swap {S X : Nat → Bool} (hp : Pos dy n S) {e : Nat} (he : e < n) (hS : S e = false) (hX : ∀ i, i < n → X i = true → S i = true) (hadd : Pos dy n (ins X e)) (hno : ¬ Pos dy n (ins S e)) : ∃ x, x < n ∧ S x = true ∧ X x = false ∧ Pos dy n (ins (del S x) e) := by
  have hXe : X e = false := by
    cases h : X e with
    | false => rfl
    | true => have := hX e he h; rw [hS] at this; cases this
  -- the first tight day that stands in the way
  have hex : ∃ d, dy e ≤ d ∧ Tight dy n S d := Classical.byContradiction fun hn => hno ((ins_pos hp he hS).2 fun d hd ht => hn ⟨d, hd, ht⟩)
  obtain ⟨d0, ⟨a1, a2⟩, a3⟩ : ∃ d, (dy e ≤ d ∧ Tight dy n S d) ∧ ∀ d', d' < d → ¬ (dy e ≤ d' ∧ Tight dy n S d') := by
    obtain ⟨d, hd⟩ := hex
    induction d using Nat.strongRecOn with
    | _ d ih =>
      by_cases h : ∃ d', d' < d ∧ dy e ≤ d' ∧ Tight dy n S d'
      · obtain ⟨d', h1, h2⟩ := h; exact ih d' h1 h2
      · exact ⟨d, hd, fun d' h1 h2 => h ⟨d', h1, h2⟩⟩
  have hXp : Pos dy n X := hp.sub hX
  have h1 := (ins_pos hXp he hXe).1 hadd d0 a1
  have h2 := hXp d0
  have h3 : by_ dy n X d0 < by_ dy n S d0 := by unfold Tight at h1 a2; omega
  obtain ⟨x, b1, b2, b3⟩ := cnt_ex h3
  simp only [Bool.and_eq_true, decide_eq_true_eq, Bool.and_eq_false_iff, decide_eq_false_iff_not] at b2 b3
  have b3' : X x = false := b3.resolve_right (fun h => h b2.2)
  refine ⟨x, b1, b2.1, b3', fun d => ?_⟩
  have hde : del S x e = false := by simp [del, hS]
  rw [by_ins he hde]
  have c1 := by_del (dy := dy) b1 b2.1 d
  have c2 := hp d
  by_cases q1 : dy e ≤ d
  · simp only [q1, if_true]
    by_cases q2 : d0 ≤ d
    · have : dy x ≤ d := by omega
      simp only [this, if_true] at c1; omega
    · have c3 := a3 d (by omega)
      have : ¬ Tight dy n S d := fun h => c3 ⟨q1, h⟩
      unfold Tight at this
      have : by_ dy n (del S x) d ≤ by_ dy n S d := by omega
      omega
  · simp only [q1, if_false]; omega

/-- To a smaller possible set some order of a larger one can be added. -/
theorem added {S T : Nat → Bool} (hS : Pos dy n S) (hT : Pos dy n T) (h : cnt S n < cnt T n) : ∃ e, e < n ∧ T e = true ∧ S e = false ∧ Pos dy n (ins S e) := by
  refine Classical.byContradiction fun hn => ?_
  have hm : Max dy n (fun i => S i || T i) S := fun e he hE hSe hp => hn ⟨e, he, by simpa [hSe] using hE, hSe, hp⟩
  have := hm.rank hS (fun i _ hi => by simp [hi]) hT (fun i _ hi => by simp [hi])
  omega
end

end Go.Proofs.Ytbblnbolabpfmaa
