/-
  Orders and days, in plain Lean: fines, the greedy set, best sets.
-/
import Derived.Test.YtbblnbolabpfmaaD1
namespace Go.Proofs.Ytbblnbolabpfmaa

/-- A sum from 1 to M. -/
def lay (g : Nat → Nat) : Nat → Nat
  | 0 => 0
  | c + 1 => lay g c + g (c + 1)

theorem lay_le {g h : Nat → Nat} : ∀ {M : Nat}, (∀ c, 1 ≤ c → c ≤ M → g c ≤ h c) → lay g M ≤ lay h M
  | 0, _ => Nat.le_refl _
  | M + 1, hc => by
    simp only [lay]
    have h1 := lay_le (M := M) fun c a b => hc c a (by omega)
    have h2 := hc (M + 1) (by omega) (Nat.le_refl _)
    omega

theorem lay_eq {g h : Nat → Nat} : ∀ {M : Nat}, (∀ c, 1 ≤ c → c ≤ M → g c ≤ h c) → lay g M = lay h M → ∀ c, 1 ≤ c → c ≤ M → g c = h c
  | 0, _, _, c, a, b => by omega
  | M + 1, hc, he, c, a, b => by
    simp only [lay] at he
    have h1 := lay_le (M := M) fun c a b => hc c a (by omega)
    have h2 := hc (M + 1) (by omega) (Nat.le_refl _)
    by_cases e : c = M + 1
    · subst e; omega
    · exact lay_eq (M := M) (fun c a b => hc c a (by omega)) (by omega) c a (by omega)

theorem lay_add (g h : Nat → Nat) : ∀ M : Nat, lay (fun c => g c + h c) M = lay g M + lay h M
  | 0 => rfl
  | M + 1 => by simp only [lay]; have := lay_add g h M; omega

theorem lay_step (k : Int) (h0 : 0 ≤ k) : ∀ M : Nat, (lay (fun c => (decide ((c : Int) ≤ k)).toNat) M : Int) = if (M : Int) ≤ k then (M : Int) else k
  | 0 => by simp [lay, h0]
  | M + 1 => by
    have ih := lay_step k h0 M
    simp only [lay]
    rw [Int.natCast_add, ih]
    by_cases h1 : ((M + 1 : Nat) : Int) ≤ k
    · have : (M : Int) ≤ k := by omega
      simp only [h1, this, if_true, decide_true, Bool.toNat_true]; omega
    · by_cases h2 : (M : Int) ≤ k
      · have : k = M := by omega
        simp only [h1, h2, if_true, if_false, decide_false, Bool.toNat_false]; omega
      · simp only [h1, h2, if_false, decide_false, Bool.toNat_false]; omega

theorem lay_zero : ∀ M : Nat, lay (fun _ => 0) M = 0
  | 0 => rfl
  | M + 1 => by simp only [lay]; rw [lay_zero M]

/-- A sum of fines, fine by fine. -/
theorem cake {f : Nat → Int} {S : Nat → Bool} {M : Nat} : ∀ {n : Nat}, (∀ i, i < n → S i = true → 0 ≤ f i ∧ f i ≤ M) → ws f S n = (lay (fun c => cnt (fun i => S i && decide ((c : Int) ≤ f i)) n) M : Int)
  | 0, _ => by
    have : lay (fun c => cnt (fun i => S i && decide ((c : Int) ≤ f i)) 0) M = 0 := lay_zero M
    rw [this]; rfl
  | n + 1, h => by
    have ih := cake (n := n) fun i hi hs => h i (by omega) hs
    simp only [ws, cnt]
    rw [ih, lay_add, Int.natCast_add]
    congr 1
    cases hs : S n with
    | false => simp only [Bool.false_and, Bool.toNat_false, cond_false]; rw [lay_zero]; rfl
    | true =>
      obtain ⟨h1, h2⟩ := h n (by omega) hs
      simp only [Bool.true_and, cond_true]
      rw [lay_step (f n) h1 M]
      split <;> omega

section
variable {dy : Nat → Nat} {f : Nat → Int} {n M : Nat}

/-- Which order comes first. -/
def bef (f : Nat → Int) (i e : Nat) : Bool := decide (f e < f i) || (decide (f i = f e) && decide (i < e))

/-- A set to which each order by falling fines was added if it could be. -/
structure Gr (dy : Nat → Nat) (f : Nat → Int) (n : Nat) (A G : Nat → Bool) : Prop where
  pos : Pos dy n G
  sub : ∀ i, i < n → A i = true → G i = true
  no : ∀ e, e < n → G e = false → ¬ Pos dy n (ins (fun i => G i && (A i || bef f i e)) e)

theorem ins_sub {X Y : Nat → Bool} {e : Nat} (h : ∀ i, i < n → X i = true → Y i = true) : ∀ i, i < n → ins X e i = true → ins Y e i = true := fun i hi hp => by
  simp only [ins, Bool.or_eq_true] at hp ⊢
  exact hp.imp (h i hi) id

/-- At each fine: nothing can be added. -/
theorem Gr.max {A G : Nat → Bool} (h : Gr dy f n A G) (c : Int) : Max dy n (fun i => A i || decide (c ≤ f i)) (fun i => G i && (A i || decide (c ≤ f i))) := fun e he hE hS hp => by
  simp only [Bool.or_eq_true, decide_eq_true_eq] at hE
  have hG : G e = false := by
    cases hg : G e with
    | false => rfl
    | true => simp only [hg, Bool.true_and, Bool.or_eq_false_iff, decide_eq_false_iff_not] at hS; rcases hE with hE | hE <;> simp_all
  have hA : A e = false := by
    cases ha : A e with
    | false => rfl
    | true => have := h.sub e he ha; rw [hG] at this; cases this
  have hc : c ≤ f e := by rcases hE with hE | hE <;> simp_all
  refine h.no e he hG (hp.sub (ins_sub fun i hi hq => ?_))
  simp only [Bool.and_eq_true, Bool.or_eq_true, bef, decide_eq_true_eq] at hq ⊢
  refine ⟨hq.1, hq.2.imp id fun hq => ?_⟩
  rcases hq with hq | hq <;> omega

theorem Gr.rank {A G T : Nat → Bool} (h : Gr dy f n A G) (hT : Pos dy n T) (hA : ∀ i, i < n → A i = true → T i = true) (c : Int) : cnt (fun i => T i && decide (c ≤ f i)) n ≤ cnt (fun i => G i && decide (c ≤ f i)) n := by
  have hp : Pos dy n (fun i => G i && (A i || decide (c ≤ f i))) := h.pos.sub fun i _ hi => by simp only [Bool.and_eq_true] at hi; exact hi.1
  have hTp : Pos dy n (fun i => T i && (A i || decide (c ≤ f i))) := hT.sub fun i _ hi => by simp only [Bool.and_eq_true] at hi; exact hi.1
  have h1 := (h.max c).rank hp (fun i _ hi => by simp only [Bool.and_eq_true] at hi; exact hi.2) hTp (fun i _ hi => by simp only [Bool.and_eq_true] at hi; exact hi.2)
  have key : ∀ X : Nat → Bool, (∀ i, i < n → A i = true → X i = true) → cnt (fun i => X i && (A i || decide (c ≤ f i))) n = cnt (fun i => X i && decide (c ≤ f i)) n + cnt (fun i => A i && !decide (c ≤ f i)) n := fun X hX => by
    rw [← cnt_or]
    · refine cnt_congr fun i hi => ?_
      cases ha : A i with
      | true => rw [hX i hi ha]; cases decide (c ≤ f i) <;> rfl
      | false => cases X i <;> cases decide (c ≤ f i) <;> rfl
    · intro i _ hi
      simp only [Bool.and_eq_true] at hi
      rw [hi.2]; simp
  rw [key T hA, key G h.sub] at h1
  omega

/-- THE GREEDY SET HAS THE GREATEST SUM, among sets with what it began with. -/
theorem Gr.best {A G T : Nat → Bool} (h : Gr dy f n A G) (hf : ∀ i, i < n → 0 ≤ f i ∧ f i ≤ M) (hT : Pos dy n T) (hA : ∀ i, i < n → A i = true → T i = true) : ws f T n ≤ ws f G n := by
  rw [cake (M := M) fun i hi _ => hf i hi, cake (M := M) fun i hi _ => hf i hi]
  exact Int.ofNat_le.2 (lay_le fun c _ _ => h.rank hT hA c)

theorem Gr.size {A G T : Nat → Bool} (h : Gr dy f n A G) (hf : ∀ i, i < n → 0 ≤ f i) (hT : Pos dy n T) (hA : ∀ i, i < n → A i = true → T i = true) : cnt T n ≤ cnt G n := by
  have h1 := h.rank hT hA 0
  have key : ∀ X : Nat → Bool, cnt (fun i => X i && decide ((0 : Int) ≤ f i)) n = cnt X n := fun X => cnt_congr fun i hi => by simp [hf i hi]
  rw [key, key] at h1
  exact h1

/-- A set with the greatest sum has, fine by fine, as many orders. -/
theorem Gr.even {G T : Nat → Bool} (h : Gr dy f n (fun _ => false) G) (hf : ∀ i, i < n → 0 ≤ f i ∧ f i ≤ M) (hT : Pos dy n T) (he : ws f T n = ws f G n) {c : Nat} (h1 : 1 ≤ c) : cnt (fun i => T i && decide ((c : Int) ≤ f i)) n = cnt (fun i => G i && decide ((c : Int) ≤ f i)) n := by
  rw [cake (M := M) fun i hi _ => hf i hi, cake (M := M) fun i hi _ => hf i hi] at he
  by_cases hc : c ≤ M
  · exact lay_eq (fun c _ _ => h.rank hT (fun i _ h => by cases h) c) (Int.ofNat.inj he) c h1 hc
  · have : ∀ X : Nat → Bool, cnt (fun i => X i && decide ((c : Int) ≤ f i)) n = 0 := fun X => cnt_zero fun i hi => by
      have := (hf i hi).2
      have : ¬ (c : Int) ≤ f i := by omega
      simp [this]
    rw [this, this]

/-- THE GREEDY SET IS THE FIRST OF THE LARGEST BEST SETS. -/
theorem Gr.first {G S : Nat → Bool} (h : Gr dy f n (fun _ => false) G) (hf : ∀ i, i < n → 0 ≤ f i ∧ f i ≤ M) (hS : Pos dy n S) (he : ws f S n = ws f G n) {e : Nat} (hen : e < n) (hlow : ∀ i, i < e → S i = G i) (h1 : S e = true) (h2 : G e = false) : False := by
  obtain ⟨k, hk⟩ : ∃ k : Nat, f e = k := ⟨(f e).toNat, by have := (hf e hen).1; omega⟩
  -- what is greater; what is alike and comes before
  let X : Nat → Bool := fun i => S i && decide (((k + 1 : Nat) : Int) ≤ f i)
  let Y : Nat → Bool := fun i => G i && decide (((k + 1 : Nat) : Int) ≤ f i)
  let Q : Nat → Bool := fun i => G i && (decide (f i = f e) && decide (i < e))
  have hc : cnt X n = cnt Y n := h.even hf hS he (c := k + 1) (by omega)
  have dX : ∀ i, i < n → X i = true → Q i = false := fun i _ hx => by
    simp only [X, Q, Bool.and_eq_true, decide_eq_true_eq] at hx ⊢
    have : ¬ f i = f e := by omega
    simp [this]
  have dY : ∀ i, i < n → Y i = true → Q i = false := fun i _ hx => by
    simp only [Y, Q, Bool.and_eq_true, decide_eq_true_eq] at hx ⊢
    have : ¬ f i = f e := by omega
    simp [this]
  have hcc : cnt (fun i => X i || Q i) n = cnt (fun i => Y i || Q i) n := by rw [cnt_or dX, cnt_or dY, hc]
  have sG : ∀ i, i < n → (Y i || Q i) = true → G i = true := fun i _ hi => by
    simp only [Y, Q, Bool.or_eq_true, Bool.and_eq_true] at hi
    rcases hi with hi | hi <;> exact hi.1
  have sS : ∀ i, i < n → (X i || Q i) = true → del S e i = true := fun i _ hi => by
    simp only [X, Q, Bool.or_eq_true, Bool.and_eq_true, decide_eq_true_eq] at hi
    simp only [del, Bool.and_eq_true, Bool.not_eq_true', beq_eq_false_iff_ne]
    rcases hi with hi | hi
    · exact ⟨hi.1, fun q => by subst q; omega⟩
    · exact ⟨by rw [hlow i hi.2.2]; exact hi.1, by omega⟩
  have hYp : Pos dy n (fun i => Y i || Q i) := h.pos.sub sG
  have hdS : Pos dy n (del S e) := hS.sub fun i _ hi => by simp only [del, Bool.and_eq_true] at hi; exact hi.1
  have hXp : Pos dy n (fun i => X i || Q i) := hdS.sub sS
  -- nothing greater can be added
  have hm : Max dy n (fun i => decide (((k + 1 : Nat) : Int) ≤ f i) || Q i) (fun i => Y i || Q i) := fun e' he' hE hY hp => by
    have hQ : Q e' = false := by
      cases q : Q e' with
      | false => rfl
      | true => simp [q] at hY
    simp only [hQ, Bool.or_false, decide_eq_true_eq] at hE
    have hG : G e' = false := by
      cases g : G e' with
      | false => rfl
      | true =>
        exfalso
        have : Y e' = true := by simp only [Y, g, Bool.true_and, decide_eq_true_eq]; exact hE
        simp only [this, Bool.true_or] at hY; cases hY
    refine h.no e' he' hG (hp.sub (ins_sub fun i hi hq => ?_))
    simp only [Bool.false_or, Bool.and_eq_true, bef, Bool.or_eq_true, decide_eq_true_eq] at hq
    simp only [Y, Bool.or_eq_true, Bool.and_eq_true, decide_eq_true_eq]
    refine .inl ⟨hq.1, ?_⟩
    rcases hq.2 with hq | hq <;> omega
  have hsubE : ∀ i, i < n → (Y i || Q i) = true → (decide (((k + 1 : Nat) : Int) ≤ f i) || Q i) = true := fun i _ hi => by
    simp only [Y, Bool.or_eq_true, Bool.and_eq_true] at hi ⊢
    exact hi.imp (·.2) id
  have hsubX : ∀ i, i < n → (X i || Q i) = true → (decide (((k + 1 : Nat) : Int) ≤ f i) || Q i) = true := fun i _ hi => by
    simp only [X, Bool.or_eq_true, Bool.and_eq_true] at hi ⊢
    exact hi.imp (·.2) id
  obtain ⟨D, t1, t2⟩ := last_tight hYp
  have t3 := hm.same hYp hsubE hXp hsubX hcc t1 t2
  -- e was refused
  have hno := h.no e hen h2
  have hno' : ¬ Pos dy n (ins (fun i => Y i || Q i) e) := fun hp => hno (hp.sub (ins_sub fun i hi hq => by
    simp only [Bool.false_or, Bool.and_eq_true, bef, Bool.or_eq_true, decide_eq_true_eq] at hq
    simp only [Y, Q, Bool.or_eq_true, Bool.and_eq_true, decide_eq_true_eq]
    rcases hq.2 with hq2 | hq2
    · exact .inl ⟨hq.1, by omega⟩
    · exact .inr ⟨hq.1, hq2⟩))
  have hYe : (Y e || Q e) = false := by simp [Y, Q, h2]
  have hex : ∃ d, dy e ≤ d ∧ Tight dy n (fun i => Y i || Q i) d := Classical.byContradiction fun hn => hno' ((ins_pos hYp hen hYe).2 fun d hd ht => hn ⟨d, hd, ht⟩)
  obtain ⟨d, d1, d2⟩ := hex
  have d3 := t2 d d2
  have t4 := t3.up sS hdS
  have hde : del S e e = false := by simp [del]
  refine (ins_pos hdS hen hde).1 (hS.sub fun i _ hi => ?_) D (by omega) t4
  simp only [ins, del, Bool.or_eq_true, Bool.and_eq_true, Bool.not_eq_true', beq_eq_false_iff_ne, beq_iff_eq] at hi
  rcases hi with hi | hi
  · exact hi.1
  · rw [hi]; exact h1

/-- HOW MANY OF A FINE CAN BE ON TIME. -/
theorem Gr.count {A G : Nat → Bool} (h : Gr dy f n A G) (c : Int) (hA : ∀ i, i < n → A i = false) : ∃ D, cnt (fun i => G i && decide (c ≤ f i)) n = D + aft dy n (fun i => decide (c ≤ f i)) D := by
  have e1 : ∀ i, i < n → (G i && (A i || decide (c ≤ f i))) = (G i && decide (c ≤ f i)) := fun i hi => by rw [hA i hi]; rfl
  have hp : Pos dy n (fun i => G i && (A i || decide (c ≤ f i))) := h.pos.sub fun i _ hi => by simp only [Bool.and_eq_true] at hi; exact hi.1
  obtain ⟨D, h1, h2⟩ := last_tight hp
  have h3 := (h.max c).aft hp (fun i _ hi => by simp only [Bool.and_eq_true] at hi; exact hi.2) h2
  have h4 := by_aft dy n (fun i => G i && (A i || decide (c ≤ f i))) D
  have h5 : cnt (fun i => G i && (A i || decide (c ≤ f i))) n = cnt (fun i => G i && decide (c ≤ f i)) n := cnt_congr e1
  have h6 : aft dy n (fun i => A i || decide (c ≤ f i)) D = aft dy n (fun i => decide (c ≤ f i)) D := cnt_congr fun i hi => by simp [hA i hi]
  refine ⟨D, ?_⟩
  unfold Tight at h1; omega

theorem count_le {T : Nat → Bool} (hT : Pos dy n T) (c : Int) (d : Nat) : cnt (fun i => T i && decide (c ≤ f i)) n ≤ d + aft dy n (fun i => decide (c ≤ f i)) d := by
  have hp : Pos dy n (fun i => T i && decide (c ≤ f i)) := hT.sub fun i _ hi => by simp only [Bool.and_eq_true] at hi; exact hi.1
  have h1 := by_aft dy n (fun i => T i && decide (c ≤ f i)) d
  have h2 := hp d
  have h3 := aft_le dy n (S := fun i => T i && decide (c ≤ f i)) (T := fun i => decide (c ≤ f i)) (fun i _ hi => by simp only [Bool.and_eq_true] at hi; exact hi.2) d
  omega
end

end Go.Proofs.Ytbblnbolabpfmaa
