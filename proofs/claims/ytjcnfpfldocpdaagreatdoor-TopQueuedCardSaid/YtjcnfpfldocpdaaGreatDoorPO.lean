/-
 Orders and days; the program's functions as plain functions: up to the best set.
-/
import Derived.Test.YtjcnfpfldocpdaaGreatDoorP0
import Derived.Test.YtjcnfpfldocpdaaGreatDoorINS
import Derived.Test.YtjcnfpfldocpdaaGreatDoorLBM
namespace Go.Proofs.YtjcnfpfldocpdaaGreatDoor

def cnt (p : Nat → Bool) : Nat → Nat
 | 0 => 0
 | n + 1 => cnt p n + (p n).toNat
theorem cnt_congr {p q : Nat → Bool} : ∀ {n : Nat}, (∀ i, i < n → p i = q i) → cnt p n = cnt q n
 | 0, _ => rfl
 | n + 1, h => by simp only [cnt]; rw [cnt_congr fun i hi => h i (by omega), h n (by omega)]
theorem cnt_le {p q : Nat → Bool} : ∀ {n : Nat}, (∀ i, i < n → p i = true → q i = true) → cnt p n ≤ cnt q n
 | 0, _ => Nat.le_refl _
 | n + 1, h => by
  simp only [cnt]
  have := cnt_le (n := n) fun i hi => h i (by omega)
  have := h n (by omega)
  cases hp : p n <;> cases hq : q n <;> simp_all <;> omega
theorem cnt_split (p q : Nat → Bool) : ∀ n : Nat, cnt p n = cnt (fun i => p i && q i) n + cnt (fun i => p i && !q i) n
 | 0 => rfl
 | n + 1 => by
  simp only [cnt]
  have := cnt_split p q n
  cases hp : p n <;> cases hq : q n <;> simp_all <;> omega
theorem cnt_or {p q : Nat → Bool} : ∀ {n : Nat}, (∀ i, i < n → p i = true → q i = false) → cnt (fun i => p i || q i) n = cnt p n + cnt q n
 | 0, _ => rfl
 | n + 1, h => by
  simp only [cnt]
  have := cnt_or (n := n) fun i hi => h i (by omega)
  have := h n (by omega)
  cases hp : p n <;> cases hq : q n <;> simp_all <;> omega
theorem cnt_one (p : Nat → Bool) (e : Nat) : ∀ n : Nat, cnt (fun i => p i && i == e) n = if e < n ∧ p e = true then 1 else 0
 | 0 => rfl
 | n + 1 => by
  simp only [cnt]
  rw [cnt_one p e n]
  by_cases h : n = e
  ·subst h
   cases hp : p n <;> simp
  ·have : (n == e) = false := by simpa using h
   rw [this, Bool.and_false]
   by_cases h1 : e < n
   ·have : e < n + 1 := by omega
    simp [h1, this]
   ·have : ¬ e < n + 1 := by omega
    simp [h1, this]
theorem cnt_zero {p : Nat → Bool} {n : Nat} (h : ∀ i, i < n → p i = false) : cnt p n = 0 := by
 rw [cnt_congr (q := fun _ => false) h]
 induction n with
 | zero => rfl
 | succ n ih => simp only [cnt, Bool.toNat_false, Nat.add_zero]; exact ih fun i hi => h i (by omega)
theorem cnt_le_n (p : Nat → Bool) : ∀ n : Nat, cnt p n ≤ n
 | 0 => Nat.le_refl _
 | n + 1 => by simp only [cnt]; have := cnt_le_n p n; cases p n <;> simp <;> omega
def ins (p : Nat → Bool) (e : Nat) : Nat → Bool := fun i => p i || i == e
def del (p : Nat → Bool) (e : Nat) : Nat → Bool := fun i => p i && !(i == e)
theorem cnt_ins {p : Nat → Bool} {e n : Nat} (h : e < n) (hp : p e = false) (r : Nat → Bool) : cnt (fun i => ins p e i && r i) n = cnt (fun i => p i && r i) n + (r e).toNat := by
 have h1 : cnt (fun i => ins p e i && r i) n = cnt (fun i => (p i && r i) || (r i && i == e)) n := cnt_congr fun i _ => by
  simp only [ins]; cases p i <;> cases r i <;> simp
 rw [h1, cnt_or, cnt_one]
 ·cases hr : r e <;> simp [h]
 ·intro i hi hpi
  simp only [Bool.and_eq_true] at hpi
  cases hie : i == e
  ·simp
  ·have : i = e := by simpa using hie
   subst this; rw [hp] at hpi; simp at hpi
theorem cnt_del {p : Nat → Bool} {e n : Nat} (h : e < n) (hp : p e = true) (r : Nat → Bool) : cnt (fun i => del p e i && r i) n + (r e).toNat = cnt (fun i => p i && r i) n := by
 have h1 := cnt_split (fun i => p i && r i) (fun i => i == e) n
 have h2 : cnt (fun i => p i && r i && (i == e)) n = (r e).toNat := by
  rw [cnt_one (fun i => p i && r i) e n]; simp [h, hp]; cases r e <;> rfl
 have h3 : cnt (fun i => p i && r i && !(i == e)) n = cnt (fun i => del p e i && r i) n := cnt_congr fun i _ => by
  simp only [del]; cases p i <;> cases r i <;> simp
 omega
def ws (f : Nat → Int) (p : Nat → Bool) : Nat → Int
 | 0 => 0
 | n + 1 => ws f p n + cond (p n) (f n) 0
theorem ws_congr {f g : Nat → Int} {p q : Nat → Bool} : ∀ {n : Nat}, (∀ i, i < n → p i = q i) → (∀ i, i < n → p i = true → f i = g i) → ws f p n = ws g q n
 | 0, _, _ => rfl
 | n + 1, h, hf => by
  simp only [ws]
  rw [ws_congr (fun i hi => h i (by omega)) (fun i hi => hf i (by omega)), ← h n (by omega)]
  cases hp : p n
  ·simp
  ·simp [hf n (by omega) hp]
theorem ws_split (f : Nat → Int) (p q : Nat → Bool) : ∀ n : Nat, ws f p n = ws f (fun i => p i && q i) n + ws f (fun i => p i && !q i) n
 | 0 => rfl
 | n + 1 => by
  simp only [ws]
  have := ws_split f p q n
  cases hp : p n <;> cases hq : q n <;> simp_all <;> omega
theorem ws_or (f : Nat → Int) {p q : Nat → Bool} : ∀ {n : Nat}, (∀ i, i < n → p i = true → q i = false) → ws f (fun i => p i || q i) n = ws f p n + ws f q n
 | 0, _ => rfl
 | n + 1, h => by
  simp only [ws]
  have := ws_or f (n := n) fun i hi => h i (by omega)
  have := h n (by omega)
  cases hp : p n <;> cases hq : q n <;> simp_all <;> omega
theorem ws_one (f : Nat → Int) (p : Nat → Bool) (e : Nat) : ∀ n : Nat, ws f (fun i => p i && i == e) n = if e < n ∧ p e = true then f e else 0
 | 0 => by simp [ws]
 | n + 1 => by
  have ih := ws_one f p e n
  simp only [ws]
  rw [ih]
  by_cases h : n = e
  ·subst h
   cases hp : p n <;> simp
  ·have : (n == e) = false := by simpa using h
   simp only [this, Bool.and_false, cond_false]
   by_cases h1 : e < n
   ·have : e < n + 1 := by omega
    simp [h1, this]
   ·have : ¬ e < n + 1 := by omega
    simp [h1, this]
theorem ws_ins (f : Nat → Int) {p : Nat → Bool} {e n : Nat} (h : e < n) (hp : p e = false) : ws f (ins p e) n = ws f p n + f e := by
 have h1 : ws f (ins p e) n = ws f (fun i => p i || (true && i == e)) n := ws_congr (fun i _ => by simp [ins]) (fun _ _ _ => rfl)
 rw [h1, ws_or f, ws_one f (fun _ => true)]
 ·simp [h]
 ·intro i hi hpi
  cases hie : i == e
  ·simp
  ·have : i = e := by simpa using hie
   subst this; rw [hp] at hpi; cases hpi
theorem ws_del (f : Nat → Int) {p : Nat → Bool} {e n : Nat} (h : e < n) (hp : p e = true) : ws f (del p e) n + f e = ws f p n := by
 have h1 := ws_split f p (fun i => i == e) n
 rw [ws_one f p e n] at h1
 simp only [h, hp, true_and, if_true] at h1
 show ws f (fun i => p i && !(i == e)) n + f e = ws f p n
 omega
section
variable (dy : Nat → Nat) (n : Nat)

def by_ (S : Nat → Bool) (d : Nat) : Nat := cnt (fun i => S i && decide (dy i ≤ d)) n
def aft (S : Nat → Bool) (d : Nat) : Nat := cnt (fun i => S i && !decide (dy i ≤ d)) n
def Pos (S : Nat → Bool) : Prop := ∀ d, by_ dy n S d ≤ d
theorem by_aft (S : Nat → Bool) (d : Nat) : by_ dy n S d + aft dy n S d = cnt S n := (cnt_split S _ n).symm
theorem by_le {S T : Nat → Bool} (h : ∀ i, i < n → S i = true → T i = true) (d : Nat) : by_ dy n S d ≤ by_ dy n T d := cnt_le fun i hi hp => by
 simp only [Bool.and_eq_true] at hp ⊢; exact ⟨h i hi hp.1, hp.2⟩
theorem aft_le {S T : Nat → Bool} (h : ∀ i, i < n → S i = true → T i = true) (d : Nat) : aft dy n S d ≤ aft dy n T d := cnt_le fun i hi hp => by
 simp only [Bool.and_eq_true] at hp ⊢; exact ⟨h i hi hp.1, hp.2⟩
variable {dy n}

theorem Pos.sub {S T : Nat → Bool} (h : Pos dy n T) (hs : ∀ i, i < n → S i = true → T i = true) : Pos dy n S := fun d => Nat.le_trans (by_le dy n hs d) (h d)
theorem by_ins {S : Nat → Bool} {e : Nat} (he : e < n) (hS : S e = false) (d : Nat) : by_ dy n (ins S e) d = by_ dy n S d + (if dy e ≤ d then 1 else 0) := by
 unfold by_
 rw [cnt_ins he hS]
 by_cases h : dy e ≤ d <;> simp [h]
def Tight (dy : Nat → Nat) (n : Nat) (S : Nat → Bool) (d : Nat) : Prop := by_ dy n S d = d
theorem tight0 {S : Nat → Bool} (h : Pos dy n S) : Tight dy n S 0 := by
 have := h 0; unfold Tight; omega
theorem tight_le {S : Nat → Bool} {d : Nat} (h : Tight dy n S d) : d ≤ n := by
 have : by_ dy n S d ≤ n := cnt_le_n _ n
 unfold Tight at h; omega
theorem last_tight {S : Nat → Bool} (h : Pos dy n S) : ∃ D, Tight dy n S D ∧ ∀ d, Tight dy n S d → d ≤ D := by
 have key : ∀ k, ∃ D, Tight dy n S D ∧ ∀ d, d ≤ k → Tight dy n S d → d ≤ D := by
  intro k
  induction k with
  | zero => exact ⟨0, tight0 h, fun d hd _ => hd⟩
  | succ k ih =>
   obtain ⟨D, h1, h2⟩ := ih
   by_cases hk : Tight dy n S (k + 1)
   ·exact ⟨k + 1, hk, fun d hd _ => hd⟩
   ·refine ⟨D, h1, fun d hd ht => ?_⟩
    by_cases e : d = k + 1
    ·subst e; exact absurd ht hk
    ·exact h2 d (by omega) ht
 obtain ⟨D, h1, h2⟩ := key n
 exact ⟨D, h1, fun d hd => h2 d (tight_le hd) hd⟩
theorem Tight.up {S T : Nat → Bool} (hs : ∀ i, i < n → S i = true → T i = true) (hT : Pos dy n T) {d : Nat} (h : Tight dy n S d) : Tight dy n T d := by
 have := by_le dy n hs d
 have := hT d
 unfold Tight at *; omega
theorem ins_pos {S : Nat → Bool} (h : Pos dy n S) {e : Nat} (he : e < n) (hS : S e = false) : Pos dy n (ins S e) ↔ ∀ d, dy e ≤ d → ¬ Tight dy n S d := by
 constructor
 ·intro hp d hd ht
  have := hp d
  rw [by_ins he hS] at this
  simp only [hd, if_true] at this
  unfold Tight at ht; omega
 ·intro hn d
  rw [by_ins he hS]
  have h1 := h d
  by_cases hd : dy e ≤ d
  ·have := hn d hd
   unfold Tight at this
   simp only [hd, if_true]; omega
  ·simp only [hd, if_false]; omega
def Max (dy : Nat → Nat) (n : Nat) (E S : Nat → Bool) : Prop := ∀ e, e < n → E e = true → S e = false → ¬ Pos dy n (ins S e)
theorem Max.aft {E S : Nat → Bool} (hp : Pos dy n S) (hm : Max dy n E S) (hsub : ∀ i, i < n → S i = true → E i = true) {D : Nat} (hD : ∀ d, Tight dy n S d → d ≤ D) : aft dy n S D = aft dy n E D := by
 refine Nat.le_antisymm (aft_le dy n hsub D) (cnt_le fun i hi hq => ?_)
 simp only [Bool.and_eq_true, Bool.not_eq_true', decide_eq_false_iff_not] at hq ⊢
 refine ⟨?_, hq.2⟩
 cases hs : S i with
 | true => rfl
 | false =>
  exfalso
  refine hm i hi hq.1 hs ((ins_pos hp hi hs).2 fun d hd ht => ?_)
  have := hD d ht; omega
theorem Max.rank {E S T : Nat → Bool} (hp : Pos dy n S) (hm : Max dy n E S) (hsub : ∀ i, i < n → S i = true → E i = true) (hT : Pos dy n T) (hTE : ∀ i, i < n → T i = true → E i = true) : cnt T n ≤ cnt S n := by
 obtain ⟨D, h1, h2⟩ := last_tight hp
 have h3 := hm.aft hp hsub h2
 have h4 := aft_le dy n hTE D
 have h5 := hT D
 have h6 := by_aft dy n T D
 have h7 := by_aft dy n S D
 unfold Tight at h1; omega
theorem Max.same {E S T : Nat → Bool} (hp : Pos dy n S) (hm : Max dy n E S) (hsub : ∀ i, i < n → S i = true → E i = true) (hT : Pos dy n T) (hTE : ∀ i, i < n → T i = true → E i = true) (hc : cnt T n = cnt S n) {D : Nat} (h1 : Tight dy n S D) (h2 : ∀ d, Tight dy n S d → d ≤ D) : Tight dy n T D := by
 have h3 := hm.aft hp hsub h2
 have h4 := aft_le dy n hTE D
 have h5 := hT D
 have h6 := by_aft dy n T D
 have h7 := by_aft dy n S D
 unfold Tight at *; omega
theorem added {S T : Nat → Bool} (hS : Pos dy n S) (hT : Pos dy n T) (h : cnt S n < cnt T n) : ∃ e, e < n ∧ T e = true ∧ S e = false ∧ Pos dy n (ins S e) := by
 refine Classical.byContradiction fun hn => ?_
 have hm : Max dy n (fun i => S i || T i) S := fun e he hE hSe hp => hn ⟨e, he, by simpa [hSe] using hE, hSe, hp⟩
 have := hm.rank hS (fun i _ hi => by simp [hi]) hT (fun i _ hi => by simp [hi])
 omega
end

end Go.Proofs.YtjcnfpfldocpdaaGreatDoor

namespace Go.Proofs.YtjcnfpfldocpdaaGreatDoor

def lay (g : Nat → Nat) : Nat → Nat
 | 0 => 0
 | c + 1 => lay g c + g (c + 1)
theorem lay_le {g h : Nat → Nat} : ∀ {M : Nat}, (∀ c, 1 ≤ c → c ≤ M → g c ≤ h c) → lay g M ≤ lay h M
 | 0, _ => Nat.le_refl _
 | M + 1, hc => by
  simp only [lay]
  have h1 := lay_le (M := M) fun c a b => hc c a (by omega)
  have h2 := hc (M + 1) (by omega) (Nat.le_refl _)
  omega
theorem lay_eq {g h : Nat → Nat} : ∀ {M : Nat}, (∀ c, 1 ≤ c → c ≤ M → g c ≤ h c) → lay g M = lay h M → ∀ c, 1 ≤ c → c ≤ M → g c = h c
 | 0, _, _, c, a, b => by omega
 | M + 1, hc, he, c, a, b => by
  simp only [lay] at he
  have h1 := lay_le (M := M) fun c a b => hc c a (by omega)
  have h2 := hc (M + 1) (by omega) (Nat.le_refl _)
  by_cases e : c = M + 1
  ·subst e; omega
  ·exact lay_eq (M := M) (fun c a b => hc c a (by omega)) (by omega) c a (by omega)
theorem lay_add (g h : Nat → Nat) : ∀ M : Nat, lay (fun c => g c + h c) M = lay g M + lay h M
 | 0 => rfl
 | M + 1 => by simp only [lay]; have := lay_add g h M; omega
theorem lay_step (k : Int) (h0 : 0 ≤ k) : ∀ M : Nat, (lay (fun c => (decide ((c : Int) ≤ k)).toNat) M : Int) = if (M : Int) ≤ k then (M : Int) else k
 | 0 => by simp [lay, h0]
 | M + 1 => by
  have ih := lay_step k h0 M
  simp only [lay]
  rw [Int.natCast_add, ih]
  by_cases h1 : ((M + 1 : Nat) : Int) ≤ k
  ·have : (M : Int) ≤ k := by omega
   simp only [h1, this, if_true, decide_true, Bool.toNat_true]; omega
  ·by_cases h2 : (M : Int) ≤ k
   ·have : k = M := by omega
    simp only [h1, h2, if_true, if_false, decide_false, Bool.toNat_false]; omega
   ·simp only [h1, h2, if_false, decide_false, Bool.toNat_false]; omega
theorem lay_zero : ∀ M : Nat, lay (fun _ => 0) M = 0
 | 0 => rfl
 | M + 1 => by simp only [lay]; rw [lay_zero M]
theorem cake {f : Nat → Int} {S : Nat → Bool} {M : Nat} : ∀ {n : Nat}, (∀ i, i < n → S i = true → 0 ≤ f i ∧ f i ≤ M) → ws f S n = (lay (fun c => cnt (fun i => S i && decide ((c : Int) ≤ f i)) n) M : Int)
 | 0, _ => by
  have : lay (fun c => cnt (fun i => S i && decide ((c : Int) ≤ f i)) 0) M = 0 := lay_zero M
  rw [this]; rfl
 | n + 1, h => by
  have ih := cake (n := n) fun i hi hs => h i (by omega) hs
  simp only [ws, cnt]
  rw [ih, lay_add, Int.natCast_add]
  congr 1
  cases hs : S n with
  | false => simp only [Bool.false_and, Bool.toNat_false, cond_false]; rw [lay_zero]; rfl
  | true =>
   obtain ⟨h1, h2⟩ := h n (by omega) hs
   simp only [Bool.true_and, cond_true]
   rw [lay_step (f n) h1 M]
   split <;> omega
section
variable {dy : Nat → Nat} {f : Nat → Int} {n M : Nat}

def bef (f : Nat → Int) (i e : Nat) : Bool := decide (f e < f i) || (decide (f i = f e) && decide (i < e))
structure Gr (dy : Nat → Nat) (f : Nat → Int) (n : Nat) (A G : Nat → Bool) : Prop where
 pos : Pos dy n G
 sub : ∀ i, i < n → A i = true → G i = true
 no : ∀ e, e < n → G e = false → ¬ Pos dy n (ins (fun i => G i && (A i || bef f i e)) e)
theorem ins_sub {X Y : Nat → Bool} {e : Nat} (h : ∀ i, i < n → X i = true → Y i = true) : ∀ i, i < n → ins X e i = true → ins Y e i = true := fun i hi hp => by
 simp only [ins, Bool.or_eq_true] at hp ⊢
 exact hp.imp (h i hi) id
theorem Gr.max {A G : Nat → Bool} (h : Gr dy f n A G) (c : Int) : Max dy n (fun i => A i || decide (c ≤ f i)) (fun i => G i && (A i || decide (c ≤ f i))) := fun e he hE hS hp => by
 simp only [Bool.or_eq_true, decide_eq_true_eq] at hE
 have hG : G e = false := by
  cases hg : G e with
  | false => rfl
  | true => simp only [hg, Bool.true_and, Bool.or_eq_false_iff, decide_eq_false_iff_not] at hS; rcases hE with hE | hE <;> simp_all
 have hA : A e = false := by
  cases ha : A e with
  | false => rfl
  | true => have := h.sub e he ha; rw [hG] at this; cases this
 have hc : c ≤ f e := by rcases hE with hE | hE <;> simp_all
 refine h.no e he hG (hp.sub (ins_sub fun i hi hq => ?_))
 simp only [Bool.and_eq_true, Bool.or_eq_true, bef, decide_eq_true_eq] at hq ⊢
 refine ⟨hq.1, hq.2.imp id fun hq => ?_⟩
 rcases hq with hq | hq <;> omega
theorem Gr.rank {A G T : Nat → Bool} (h : Gr dy f n A G) (hT : Pos dy n T) (hA : ∀ i, i < n → A i = true → T i = true) (c : Int) : cnt (fun i => T i && decide (c ≤ f i)) n ≤ cnt (fun i => G i && decide (c ≤ f i)) n := by
 have hp : Pos dy n (fun i => G i && (A i || decide (c ≤ f i))) := h.pos.sub fun i _ hi => by simp only [Bool.and_eq_true] at hi; exact hi.1
 have hTp : Pos dy n (fun i => T i && (A i || decide (c ≤ f i))) := hT.sub fun i _ hi => by simp only [Bool.and_eq_true] at hi; exact hi.1
 have h1 := (h.max c).rank hp (fun i _ hi => by simp only [Bool.and_eq_true] at hi; exact hi.2) hTp (fun i _ hi => by simp only [Bool.and_eq_true] at hi; exact hi.2)
 have key : ∀ X : Nat → Bool, (∀ i, i < n → A i = true → X i = true) → cnt (fun i => X i && (A i || decide (c ≤ f i))) n = cnt (fun i => X i && decide (c ≤ f i)) n + cnt (fun i => A i && !decide (c ≤ f i)) n := fun X hX => by
  rw [← cnt_or]
  ·refine cnt_congr fun i hi => ?_
   cases ha : A i with
   | true => rw [hX i hi ha]; cases decide (c ≤ f i) <;> rfl
   | false => cases X i <;> cases decide (c ≤ f i) <;> rfl
  ·intro i _ hi
   simp only [Bool.and_eq_true] at hi
   rw [hi.2]; simp
 rw [key T hA, key G h.sub] at h1
 omega
theorem Gr.best {A G T : Nat → Bool} (h : Gr dy f n A G) (hf : ∀ i, i < n → 0 ≤ f i ∧ f i ≤ M) (hT : Pos dy n T) (hA : ∀ i, i < n → A i = true → T i = true) : ws f T n ≤ ws f G n := by
 rw [cake (M := M) fun i hi _ => hf i hi, cake (M := M) fun i hi _ => hf i hi]
 exact Int.ofNat_le.2 (lay_le fun c _ _ => h.rank hT hA c)
theorem Gr.size {A G T : Nat → Bool} (h : Gr dy f n A G) (hf : ∀ i, i < n → 0 ≤ f i) (hT : Pos dy n T) (hA : ∀ i, i < n → A i = true → T i = true) : cnt T n ≤ cnt G n := by
 have h1 := h.rank hT hA 0
 have key : ∀ X : Nat → Bool, cnt (fun i => X i && decide ((0 : Int) ≤ f i)) n = cnt X n := fun X => cnt_congr fun i hi => by simp [hf i hi]
 rw [key, key] at h1
 exact h1
theorem Gr.even {G T : Nat → Bool} (h : Gr dy f n (fun _ => false) G) (hf : ∀ i, i < n → 0 ≤ f i ∧ f i ≤ M) (hT : Pos dy n T) (he : ws f T n = ws f G n) {c : Nat} (h1 : 1 ≤ c) : cnt (fun i => T i && decide ((c : Int) ≤ f i)) n = cnt (fun i => G i && decide ((c : Int) ≤ f i)) n := by
 rw [cake (M := M) fun i hi _ => hf i hi, cake (M := M) fun i hi _ => hf i hi] at he
 by_cases hc : c ≤ M
 ·exact lay_eq (fun c _ _ => h.rank hT (fun i _ h => by cases h) c) (Int.ofNat.inj he) c h1 hc
 ·have : ∀ X : Nat → Bool, cnt (fun i => X i && decide ((c : Int) ≤ f i)) n = 0 := fun X => cnt_zero fun i hi => by
   have := (hf i hi).2
   have : ¬ (c : Int) ≤ f i := by omega
   simp [this]
  rw [this, this]
theorem Gr.first {G S : Nat → Bool} (h : Gr dy f n (fun _ => false) G) (hf : ∀ i, i < n → 0 ≤ f i ∧ f i ≤ M) (hS : Pos dy n S) (he : ws f S n = ws f G n) {e : Nat} (hen : e < n) (hlow : ∀ i, i < e → S i = G i) (h1 : S e = true) (h2 : G e = false) : False := by
 obtain ⟨k, hk⟩ : ∃ k : Nat, f e = k := ⟨(f e).toNat, by have := (hf e hen).1; omega⟩
 -- what is greater; what is alike and comes before
 let X : Nat → Bool := fun i => S i && decide (((k + 1 : Nat) : Int) ≤ f i)
 let Y : Nat → Bool := fun i => G i && decide (((k + 1 : Nat) : Int) ≤ f i)
 let Q : Nat → Bool := fun i => G i && (decide (f i = f e) && decide (i < e))
 have hc : cnt X n = cnt Y n := h.even hf hS he (c := k + 1) (by omega)
 have dX : ∀ i, i < n → X i = true → Q i = false := fun i _ hx => by
  simp only [X, Q, Bool.and_eq_true, decide_eq_true_eq] at hx ⊢
  have : ¬ f i = f e := by omega
  simp [this]
 have dY : ∀ i, i < n → Y i = true → Q i = false := fun i _ hx => by
  simp only [Y, Q, Bool.and_eq_true, decide_eq_true_eq] at hx ⊢
  have : ¬ f i = f e := by omega
  simp [this]
 have hcc : cnt (fun i => X i || Q i) n = cnt (fun i => Y i || Q i) n := by rw [cnt_or dX, cnt_or dY, hc]
 have sG : ∀ i, i < n → (Y i || Q i) = true → G i = true := fun i _ hi => by
  simp only [Y, Q, Bool.or_eq_true, Bool.and_eq_true] at hi
  rcases hi with hi | hi <;> exact hi.1
 have sS : ∀ i, i < n → (X i || Q i) = true → del S e i = true := fun i _ hi => by
  simp only [X, Q, Bool.or_eq_true, Bool.and_eq_true, decide_eq_true_eq] at hi
  simp only [del, Bool.and_eq_true, Bool.not_eq_true', beq_eq_false_iff_ne]
  rcases hi with hi | hi
  ·exact ⟨hi.1, fun q => by subst q; omega⟩
  ·exact ⟨by rw [hlow i hi.2.2]; exact hi.1, by omega⟩
 have hYp : Pos dy n (fun i => Y i || Q i) := h.pos.sub sG
 have hdS : Pos dy n (del S e) := hS.sub fun i _ hi => by simp only [del, Bool.and_eq_true] at hi; exact hi.1
 have hXp : Pos dy n (fun i => X i || Q i) := hdS.sub sS
 -- nothing greater can be added
 have hm : Max dy n (fun i => decide (((k + 1 : Nat) : Int) ≤ f i) || Q i) (fun i => Y i || Q i) := fun e' he' hE hY hp => by
  have hQ : Q e' = false := by
   cases q : Q e' with
   | false => rfl
   | true => simp [q] at hY
  simp only [hQ, Bool.or_false, decide_eq_true_eq] at hE
  have hG : G e' = false := by
   cases g : G e' with
   | false => rfl
   | true =>
    exfalso
    have : Y e' = true := by simp only [Y, g, Bool.true_and, decide_eq_true_eq]; exact hE
    simp only [this, Bool.true_or] at hY; cases hY
  refine h.no e' he' hG (hp.sub (ins_sub fun i hi hq => ?_))
  simp only [Bool.false_or, Bool.and_eq_true, bef, Bool.or_eq_true, decide_eq_true_eq] at hq
  simp only [Y, Bool.or_eq_true, Bool.and_eq_true, decide_eq_true_eq]
  refine .inl ⟨hq.1, ?_⟩
  rcases hq.2 with hq | hq <;> omega
 have hsubE : ∀ i, i < n → (Y i || Q i) = true → (decide (((k + 1 : Nat) : Int) ≤ f i) || Q i) = true := fun i _ hi => by
  simp only [Y, Bool.or_eq_true, Bool.and_eq_true] at hi ⊢
  exact hi.imp (·.2) id
 have hsubX : ∀ i, i < n → (X i || Q i) = true → (decide (((k + 1 : Nat) : Int) ≤ f i) || Q i) = true := fun i _ hi => by
  simp only [X, Bool.or_eq_true, Bool.and_eq_true] at hi ⊢
  exact hi.imp (·.2) id
 obtain ⟨D, t1, t2⟩ := last_tight hYp
 have t3 := hm.same hYp hsubE hXp hsubX hcc t1 t2
 -- e was refused
 have hno := h.no e hen h2
 have hno' : ¬ Pos dy n (ins (fun i => Y i || Q i) e) := fun hp => hno (hp.sub (ins_sub fun i hi hq => by
  simp only [Bool.false_or, Bool.and_eq_true, bef, Bool.or_eq_true, decide_eq_true_eq] at hq
  simp only [Y, Q, Bool.or_eq_true, Bool.and_eq_true, decide_eq_true_eq]
  rcases hq.2 with hq2 | hq2
  ·exact .inl ⟨hq.1, by omega⟩
  ·exact .inr ⟨hq.1, hq2⟩))
 have hYe : (Y e || Q e) = false := by simp [Y, Q, h2]
 have hex : ∃ d, dy e ≤ d ∧ Tight dy n (fun i => Y i || Q i) d := Classical.byContradiction fun hn => hno' ((ins_pos hYp hen hYe).2 fun d hd ht => hn ⟨d, hd, ht⟩)
 obtain ⟨d, d1, d2⟩ := hex
 have d3 := t2 d d2
 have t4 := t3.up sS hdS
 have hde : del S e e = false := by simp [del]
 refine (ins_pos hdS hen hde).1 (hS.sub fun i _ hi => ?_) D (by omega) t4
 simp only [ins, del, Bool.or_eq_true, Bool.and_eq_true, Bool.not_eq_true', beq_eq_false_iff_ne, beq_iff_eq] at hi
 rcases hi with hi | hi
 ·exact hi.1
 ·rw [hi]; exact h1
theorem Gr.count {A G : Nat → Bool} (h : Gr dy f n A G) (c : Int) (hA : ∀ i, i < n → A i = false) : ∃ D, cnt (fun i => G i && decide (c ≤ f i)) n = D + aft dy n (fun i => decide (c ≤ f i)) D := by
 have e1 : ∀ i, i < n → (G i && (A i || decide (c ≤ f i))) = (G i && decide (c ≤ f i)) := fun i hi => by rw [hA i hi]; rfl
 have hp : Pos dy n (fun i => G i && (A i || decide (c ≤ f i))) := h.pos.sub fun i _ hi => by simp only [Bool.and_eq_true] at hi; exact hi.1
 obtain ⟨D, h1, h2⟩ := last_tight hp
 have h3 := (h.max c).aft hp (fun i _ hi => by simp only [Bool.and_eq_true] at hi; exact hi.2) h2
 have h4 := by_aft dy n (fun i => G i && (A i || decide (c ≤ f i))) D
 have h5 : cnt (fun i => G i && (A i || decide (c ≤ f i))) n = cnt (fun i => G i && decide (c ≤ f i)) n := cnt_congr e1
 have h6 : aft dy n (fun i => A i || decide (c ≤ f i)) D = aft dy n (fun i => decide (c ≤ f i)) D := cnt_congr fun i hi => by simp [hA i hi]
 refine ⟨D, ?_⟩
 unfold Tight at h1; omega
end

end Go.Proofs.YtjcnfpfldocpdaaGreatDoor

namespace Go.Proofs.YtjcnfpfldocpdaaGreatDoor

def qput (f : Nat → Int) (i : Nat) : List Nat → List Nat
 | [] => [i]
 | j :: r => if f j < f i then i :: j :: r else j :: qput f i r
def qday (dy : Nat → Nat) (f : Nat → Int) (n t : Nat) (Q : List Nat) : List Nat := (List.range n).foldl (fun q i => if dy i = t then qput f i q else q) Q
def run (dy : Nat → Nat) (f : Nat → Int) (n : Nat) : Nat → List Nat → Int
 | 0, _ => 0
 | t + 1, Q => match qday dy f n (t + 1) Q with
  | [] => run dy f n t []
  | i :: r => f i + run dy f n t r
theorem qput_mem {f : Nat → Int} {i : Nat} : ∀ {Q : List Nat} {x : Nat}, x ∈ qput f i Q ↔ x = i ∨ x ∈ Q
 | [], x => by simp [qput]
 | j :: r, x => by
  unfold qput
  split
  ·simp
  ·simp only [List.mem_cons, qput_mem (Q := r)]
   constructor
   ·rintro (h | h | h)
    ·exact .inr (.inl h)
    ·exact .inl h
    ·exact .inr (.inr h)
   ·rintro (h | h | h)
    ·exact .inr (.inl h)
    ·exact .inl h
    ·exact .inr (.inr h)
theorem qput_sorted {f : Nat → Int} {i : Nat} : ∀ {Q : List Nat}, Q.Pairwise (fun a b => f b ≤ f a) → (qput f i Q).Pairwise (fun a b => f b ≤ f a)
 | [], _ => by simp [qput]
 | j :: r, h => by
  obtain ⟨h1, h2⟩ := List.pairwise_cons.1 h
  unfold qput
  split
  ·rename_i hlt
   refine List.pairwise_cons.2 ⟨fun x hx => ?_, h⟩
   rcases List.mem_cons.1 hx with rfl | hx
   ·omega
   ·have := h1 x hx; omega
  ·rename_i hlt
   refine List.pairwise_cons.2 ⟨fun x hx => ?_, qput_sorted h2⟩
   rcases qput_mem.1 hx with rfl | hx
   ·omega
   ·exact h1 x hx
theorem qput_nodup {f : Nat → Int} {i : Nat} : ∀ {Q : List Nat}, Q.Nodup → i ∉ Q → (qput f i Q).Nodup
 | [], _, _ => by simp [qput]
 | j :: r, h, hi => by
  obtain ⟨h1, h2⟩ := List.nodup_cons.1 h
  unfold qput
  split
  ·exact List.nodup_cons.2 ⟨hi, h⟩
  ·refine List.nodup_cons.2 ⟨fun hx => ?_, qput_nodup h2 fun hx => hi (List.mem_cons_of_mem _ hx)⟩
   rcases qput_mem.1 hx with rfl | hx
   ·exact hi (by simp)
   ·exact h1 hx
section
variable {dy : Nat → Nat} {f : Nat → Int} {n : Nat}

theorem qfold_ok {t : Nat} : ∀ (L : List Nat) (Q : List Nat), L.Nodup → Q.Nodup → Q.Pairwise (fun a b => f b ≤ f a) → (∀ i ∈ L, dy i = t → i ∉ Q) →
  (L.foldl (fun q i => if dy i = t then qput f i q else q) Q).Nodup ∧ (L.foldl (fun q i => if dy i = t then qput f i q else q) Q).Pairwise (fun a b => f b ≤ f a) ∧ ∀ x, x ∈ L.foldl (fun q i => if dy i = t then qput f i q else q) Q ↔ x ∈ Q ∨ (x ∈ L ∧ dy x = t)
 | [], Q, _, h1, h2, _ => ⟨h1, h2, fun x => by simp⟩
 | i :: L, Q, hL, h1, h2, h3 => by
  obtain ⟨hi, hL'⟩ := List.nodup_cons.1 hL
  simp only [List.foldl_cons]
  by_cases ht : dy i = t
  ·rw [if_pos ht]
   have hiQ := h3 i (by simp) ht
   obtain ⟨a, b, c⟩ := qfold_ok L (qput f i Q) hL' (qput_nodup h1 hiQ) (qput_sorted h2) (fun j hj hjt hm => by
    rcases qput_mem.1 hm with rfl | hm
    ·exact hi hj
    ·exact h3 j (List.mem_cons_of_mem _ hj) hjt hm)
   refine ⟨a, b, fun x => ?_⟩
   rw [c x, qput_mem]
   constructor
   ·rintro ((rfl | h) | ⟨h, h'⟩)
    ·exact .inr ⟨by simp, ht⟩
    ·exact .inl h
    ·exact .inr ⟨List.mem_cons_of_mem _ h, h'⟩
   ·rintro (h | ⟨h, h'⟩)
    ·exact .inl (.inr h)
    ·rcases List.mem_cons.1 h with rfl | h
     ·exact .inl (.inl rfl)
     ·exact .inr ⟨h, h'⟩
  ·rw [if_neg ht]
   obtain ⟨a, b, c⟩ := qfold_ok L Q hL' h1 h2 (fun j hj => h3 j (List.mem_cons_of_mem _ hj))
   refine ⟨a, b, fun x => ?_⟩
   rw [c x]
   constructor
   ·rintro (h | ⟨h, h'⟩)
    ·exact .inl h
    ·exact .inr ⟨List.mem_cons_of_mem _ h, h'⟩
   ·rintro (h | ⟨h, h'⟩)
    ·exact .inl h
    ·rcases List.mem_cons.1 h with rfl | h
     ·exact absurd h' ht
     ·exact .inr ⟨h, h'⟩
structure Fit (dy : Nat → Nat) (n t : Nat) (Q : List Nat) (T : Nat → Bool) : Prop where
 mem : ∀ i, i < n → T i = true → i ∈ Q ∨ dy i ≤ t
 day : ∀ d, d < t → by_ dy n T d ≤ d
 all : cnt T n ≤ t
structure Wt (dy : Nat → Nat) (f : Nat → Int) (n t : Nat) (Q : List Nat) : Prop where
 nd : Q.Nodup
 srt : Q.Pairwise (fun a b => f b ≤ f a)
 mem : ∀ i ∈ Q, i < n ∧ t < dy i
theorem qday_ok {t : Nat} {Q : List Nat} (h : Wt dy f n (t + 1) Q) : Wt dy f n t (qday dy f n (t + 1) Q) ∧ ∀ x, x ∈ qday dy f n (t + 1) Q ↔ x ∈ Q ∨ (x < n ∧ dy x = t + 1) := by
 obtain ⟨a, b, c⟩ := qfold_ok (dy := dy) (f := f) (t := t + 1) (List.range n) Q List.nodup_range h.nd h.srt (fun i hi ht hq => by have := (h.mem i hq).2; omega)
 refine ⟨⟨a, b, fun i hi => ?_⟩, fun x => by have := c x; rw [List.mem_range] at this; exact this⟩
 rcases (c i).1 hi with h' | ⟨h', h''⟩
 ·have := h.mem i h'; exact ⟨this.1, by omega⟩
 ·exact ⟨List.mem_range.1 h', by omega⟩
theorem ws_le {T : Nat → Bool} {i x : Nat} (hx : x < n) (hT : T x = true) (h : f x ≤ f i) : ws f T n ≤ f i + ws f (del T x) n := by
 have := ws_del f hx hT; omega
theorem by_del_le {T : Nat → Bool} (x d : Nat) : by_ dy n (del T x) d ≤ by_ dy n T d := by_le dy n (fun i _ hi => by simp only [del, Bool.and_eq_true] at hi; exact hi.1) d
theorem cnt_del1 {T : Nat → Bool} {x : Nat} (hx : x < n) (hT : T x = true) : cnt (del T x) n + 1 = cnt T n := by
 have := cnt_del hx hT (fun _ => true)
 simpa using this
theorem cnt_ins1 {T : Nat → Bool} {x : Nat} (hx : x < n) (hT : T x = false) : cnt (ins T x) n = cnt T n + 1 := by
 have := cnt_ins hx hT (fun _ => true)
 simpa using this
theorem run_max (hf : ∀ i, i < n → 0 ≤ f i) : ∀ (t : Nat) (Q : List Nat) (T : Nat → Bool), Wt dy f n t Q → Fit dy n t Q T → ws f T n ≤ run dy f n t Q
 | 0, Q, T, hQ, hT => by
  have h0 : cnt T n = 0 := by have := hT.all; omega
  have hno : ∀ i, i < n → T i = false := fun i hi => by
   cases h : T i with
   | false => rfl
   | true =>
    exfalso
    have h1 := cnt_one T i n
    rw [if_pos ⟨hi, h⟩] at h1
    have h2 := cnt_le (p := fun j => T j && j == i) (q := T) (n := n) fun j _ hj => by simp only [Bool.and_eq_true] at hj; exact hj.1
    omega
  have : ws f T n = ws f (fun _ => false) n := ws_congr hno (fun i hi h => rfl)
  rw [this]
  have : ∀ m, ws f (fun _ => false) m = 0 := fun m => by
   induction m with
   | zero => rfl
   | succ m ih => simp only [ws, ih, cond_false]; rfl
  rw [this n]; exact Int.le_refl 0
 | t + 1, Q, T, hQ, hT => by
  obtain ⟨w1, w2⟩ := qday_ok hQ
  simp only [run]
  cases hq : qday dy f n (t + 1) Q with
  | nil =>
   simp only
   rw [hq] at w1 w2
   have hm : ∀ i, i < n → T i = true → dy i ≤ t := fun i hi hTi => by
    have h1 : ¬ (i ∈ Q ∨ (i < n ∧ dy i = t + 1)) := fun h => by have := (w2 i).2 h; simp at this
    rcases hT.mem i hi hTi with h | h
    ·exact absurd (.inl h) h1
    ·have : dy i ≠ t + 1 := fun e => h1 (.inr ⟨hi, e⟩)
     omega
   refine run_max hf t [] T ⟨.nil, .nil, fun i hi => by simp at hi⟩ ⟨fun i hi h => .inr (hm i hi h), fun d hd => hT.day d (by omega), ?_⟩
   have h1 := hT.day t (by omega)
   have h2 : by_ dy n T t = cnt T n := cnt_congr fun i hi => by
    cases h : T i with
    | false => rfl
    | true => simp [hm i hi h]
   omega
  | cons i r =>
   simp only
   rw [hq] at w1 w2
   have hi : i < n ∧ t < dy i := w1.mem i (by simp)
   obtain ⟨nd1, nd2⟩ := List.nodup_cons.1 w1.nd
   obtain ⟨s1, s2⟩ := List.pairwise_cons.1 w1.srt
   have hr : Wt dy f n t r := ⟨nd2, s2, fun j hj => w1.mem j (List.mem_cons_of_mem _ hj)⟩
   -- one is taken out
   have take : ∀ x, x < n → T x = true → f x ≤ f i → (∀ j, j < n → del T x j = true → j ∈ r ∨ dy j ≤ t) → ws f T n ≤ f i + run dy f n t r := fun x hx hTx hfx hm => by
    have h1 := ws_le hx hTx hfx
    have h2 := cnt_del1 hx hTx
    have h3 := hT.all
    have h4 := run_max hf t r (del T x) hr ⟨hm, fun d hd => Nat.le_trans (by_del_le x d) (hT.day d (by omega)), by omega⟩
    omega
   have inQ : ∀ j, j < n → T j = true → t < dy j → j = i ∨ j ∈ r := fun j hj hTj hd => by
    have : j ∈ i :: r := (w2 j).2 (by
     rcases hT.mem j hj hTj with h | h
     ·exact .inl h
     ·exact .inr ⟨hj, by omega⟩)
    simpa using this
   by_cases hTi : T i = true
   ·exact take i hi.1 hTi (Int.le_refl _) fun j hj hdj => by
     simp only [del, Bool.and_eq_true, Bool.not_eq_true', beq_eq_false_iff_ne] at hdj
     by_cases hd : dy j ≤ t
     ·exact .inr hd
     ·rcases inQ j hj hdj.1 (by omega) with h | h
      ·exact absurd h hdj.2
      ·exact .inl h
   ·by_cases hex : ∃ x, x < n ∧ T x = true ∧ t < dy x
    ·obtain ⟨x, hx, hTx, hdx⟩ := hex
     have hxr : x ∈ r := by
      rcases inQ x hx hTx hdx with rfl | h
      ·exact absurd hTx hTi
      ·exact h
     exact take x hx hTx (s1 x hxr) fun j hj hdj => by
      simp only [del, Bool.and_eq_true, Bool.not_eq_true', beq_eq_false_iff_ne] at hdj
      by_cases hd : dy j ≤ t
      ·exact .inr hd
      ·rcases inQ j hj hdj.1 (by omega) with rfl | h
       ·exact absurd hdj.1 hTi
       ·exact .inl h
    ·have hm : ∀ j, j < n → T j = true → dy j ≤ t := fun j hj hTj => Nat.le_of_not_lt fun h => hex ⟨j, hj, hTj, h⟩
     have h1 := hT.day t (by omega)
     have h2 : by_ dy n T t = cnt T n := cnt_congr fun j hj => by
      cases h : T j with
      | false => rfl
      | true => simp [hm j hj h]
     have h4 := run_max hf t r T hr ⟨fun j hj h => .inr (hm j hj h), fun d hd => hT.day d (by omega), by omega⟩
     have := hf i hi.1
     omega
theorem run_ex : ∀ (t : Nat) (Q : List Nat), Wt dy f n t Q → ∃ T, Fit dy n t Q T ∧ ws f T n = run dy f n t Q
 | 0, Q, hQ => by
  refine ⟨fun _ => false, ⟨fun i _ h => (by cases h), fun d hd => by omega, ?_⟩, ?_⟩
  ·rw [cnt_zero fun i _ => rfl]; exact Nat.le_refl _
  ·simp only [run]
   have : ∀ m, ws f (fun _ => false) m = 0 := fun m => by
    induction m with
    | zero => rfl
    | succ m ih => simp only [ws, ih, cond_false]; rfl
   exact this n
 | t + 1, Q, hQ => by
  obtain ⟨w1, w2⟩ := qday_ok hQ
  simp only [run]
  cases hq : qday dy f n (t + 1) Q with
  | nil =>
   simp only
   obtain ⟨T, h1, h2⟩ := run_ex t [] ⟨.nil, .nil, fun i hi => by simp at hi⟩
   have hm : ∀ i, i < n → T i = true → dy i ≤ t := fun i hi h => (h1.mem i hi h).resolve_left (by simp)
   refine ⟨T, ⟨fun i hi h => .inr (by have := hm i hi h; omega), fun d hd => ?_, by have := h1.all; omega⟩, h2⟩
   by_cases hd' : d < t
   ·exact h1.day d hd'
   ·obtain rfl : d = t := by omega
    have : by_ dy n T d ≤ cnt T n := cnt_le fun i _ hi => by simp only [Bool.and_eq_true] at hi; exact hi.1
    have := h1.all; omega
  | cons i r =>
   simp only
   rw [hq] at w1 w2
   have hi : i < n ∧ t < dy i := w1.mem i (by simp)
   obtain ⟨nd1, nd2⟩ := List.nodup_cons.1 w1.nd
   obtain ⟨s1, s2⟩ := List.pairwise_cons.1 w1.srt
   obtain ⟨T, h1, h2⟩ := run_ex t r ⟨nd2, s2, fun j hj => w1.mem j (List.mem_cons_of_mem _ hj)⟩
   have hTi : T i = false := by
    cases h : T i with
    | false => rfl
    | true =>
     exfalso
     rcases h1.mem i hi.1 h with h' | h'
     ·exact nd1 h'
     ·omega
   refine ⟨ins T i, ⟨fun j hj h => ?_, fun d hd => ?_, by rw [cnt_ins1 hi.1 hTi]; have := h1.all; omega⟩, by rw [ws_ins f hi.1 hTi, h2]; omega⟩
   ·simp only [ins, Bool.or_eq_true, beq_iff_eq] at h
    have hin : ∀ x, x ∈ i :: r → x ∈ Q ∨ dy x ≤ t + 1 := fun x hx => ((w2 x).1 hx).imp id fun h => by omega
    rcases h with h | rfl
    ·rcases h1.mem j hj h with h' | h'
     ·exact hin j (List.mem_cons_of_mem _ h')
     ·exact .inr (by omega)
    ·exact hin j (by simp)
   ·rw [by_ins hi.1 hTi, if_neg (by omega), Nat.add_zero]
    by_cases hd' : d < t
    ·exact h1.day d hd'
    ·obtain rfl : d = t := by omega
     have : by_ dy n T d ≤ cnt T n := cnt_le fun i _ hi => by simp only [Bool.and_eq_true] at hi; exact hi.1
     have := h1.all; omega
theorem run_opt (hf : ∀ i, i < n → 0 ≤ f i) {L : Nat} (hL : ∀ i, i < n → dy i ≤ L) : (∀ T, Pos dy n T → ws f T n ≤ run dy f n L []) ∧ ∃ T, Pos dy n T ∧ ws f T n = run dy f n L [] := by
 have hw : Wt dy f n L [] := ⟨.nil, .nil, fun i hi => by simp at hi⟩
 refine ⟨fun T hT => run_max hf L [] T hw ⟨fun i hi _ => .inr (hL i hi), fun d _ => hT d, ?_⟩, ?_⟩
 ·have h1 := hT L
  have h2 : by_ dy n T L = cnt T n := cnt_congr fun i hi => by simp [hL i hi]
  omega
 ·obtain ⟨T, h1, h2⟩ := run_ex L [] hw
  refine ⟨T, fun d => ?_, h2⟩
  by_cases hd : d < L
  ·exact h1.day d hd
  ·have h3 : by_ dy n T d ≤ cnt T n := cnt_le fun i _ hi => by simp only [Bool.and_eq_true] at hi; exact hi.1
   have := h1.all; omega
end

end Go.Proofs.YtjcnfpfldocpdaaGreatDoor

namespace Go.Proofs.YtjcnfpfldocpdaaGreatDoor
open Go.RowKit
set_option linter.unusedVariables false

end Go.Proofs.YtjcnfpfldocpdaaGreatDoor

namespace Go.Proofs.YtjcnfpfldocpdaaGreatDoor
open Go.RowKit
set_option linter.unusedVariables false

abbrev Od := Int × Int × Unit
abbrev d3 : Od := (0, (0, ()))
def B34 (lo n hi : Int) : Option Bool := some (decide (lo ≤ n ∧ n ≤ hi))
theorem KB34 : FnOk Tryz.prog 34 (F34 B34) := ok34 B34 fun lo n hi r h => ⟨0, by
 rw [← h]; simp only [m34, B34]
 by_cases a : lo ≤ n <;> simp [a]⟩
def fx {α : Type} (p : α → Bool) : Int → List α → Int
 | _, [] => -1
 | t, x :: xs => cond (p x) t (fx p (t + 1) xs)
theorem fx_ge {α : Type} (p : α → Bool) : ∀ (xs : List α) (t : Int), 0 ≤ t → decide (fx p t xs ≥ 0) = xs.any p
 | [], t, h => rfl
 | x :: xs, t, h => by
  rw [fx, List.any_cons]
  cases e : p x with
  | true => simp [h]
  | false => rw [cond_false, fx_ge p xs (t + 1) (by omega)]; simp
def badO (o : Od) : Bool := !(decide (1 ≤ o.1 ∧ o.1 ≤ 30)) || !(decide (0 ≤ o.2.1 ∧ o.2.1 ≤ 10000))
def B62 (o : Od) : Option Bool := some (badO o)
theorem KB62 : FnOk Tryz.prog 62 (F62 B62) := ok62 B34 KB34 B62 fun o r h => ⟨0, by
 rw [← h]; simp only [m62, B62, B34, Option.bind_some, badO]
 cases decide (1 ≤ o.1 ∧ o.1 ≤ 30) <;> rfl⟩
def B39c62 (l : List Od) : Option Int := if l.length ≤ 1000 then some (fx badO 0 l) else none
theorem KB39c62 : FnOk Tryz.prog 39 (F39c62 B39c62) := ok39c62 B62 KB62 B39c62 fun s r h => ⟨1001, by
 simp only [B39c62] at h
 split at h
 ·rename_i hl
  rw [← h, m39c62]
  exact rangeIx s d3 (fun n (_ : Unit) t => l39c62a B62 1001 s n t) (fun _ _ _ => True) (fun t xs _ => some (fx badO t xs))
   (fun n _ t x rest ht hx _ ih => by
    simp only [l39c62a, ixA ht, ixB ht, cond_true, chk_true, Int.toNat_natCast, ixW ht (by omega), hx, ih () trivial, fx, B62, Option.bind_some]
    cases badO x <;> rfl)
   (fun n _ _ => by simp only [l39c62a, ixE, cond_false]; rfl) 1001 () (by omega) trivial
 ·cases h⟩
def B61c62 (l : List Od) : Option Bool := if l.length ≤ 1000 then some (l.any badO) else none
theorem KB61c62 : FnOk Tryz.prog 61 (F61c62 B61c62) := ok61c62 B39c62 KB39c62 B61c62 fun s r h => ⟨0, by
 simp only [B61c62] at h
 split at h
 ·rename_i hl
  rw [← h, m61c62, B39c62, if_pos hl, Option.bind_some, fx_ge _ s 0 (by omega)]
 ·cases h⟩
def ckO (l : List Od) : Int := cond (decide (l.length = 0)) 1 (cond (decide (12 < l.length)) 2 (cond (l.any badO) 4 0))
def B33 (l : List Od) : Option Int := if l.length ≤ 1000 then some (ckO l) else none
theorem KB33 : FnOk Tryz.prog 33 (F33 B33) := ok33 B61c62 KB61c62 B33 fun l r h => ⟨0, by
 simp only [B33] at h
 split at h
 ·rename_i hl
  rw [← h, m33, B61c62, if_pos hl, Option.bind_some, ckO]
  have e1 : (((l.length : Int)) == 0) = decide (l.length = 0) := by
   by_cases q : l.length = 0
   ·simp [q]
   ·have : ((l.length : Int) == 0) = false := by simp; intro e; exact q (by simp [e])
    rw [this]; simp [q]
  have e2 : decide ((l.length : Int) > 12) = decide (12 < l.length) := by
   by_cases q : 12 < l.length
   ·rw [decide_eq_true q]; exact decide_eq_true (by omega)
   ·rw [decide_eq_false q]; exact decide_eq_false (by omega)
  rw [e1, e2]
  cases decide (l.length = 0) <;> cases decide (12 < l.length) <;> cases l.any badO <;> rfl
 ·cases h⟩
structure OkO (l : List Od) : Prop where
 pos : 0 < l.length
 len : l.length ≤ 12
 all : ∀ o ∈ l, (1 ≤ o.1 ∧ o.1 ≤ 30) ∧ 0 ≤ o.2.1 ∧ o.2.1 ≤ 10000
theorem ckO_ok {l : List Od} (h : ckO l = 0) : OkO l := by
 unfold ckO at h
 cases e1 : decide (l.length = 0) with
 | true => rw [e1] at h; cases h
 | false =>
  cases e2 : decide (12 < l.length) with
  | true => rw [e1, e2] at h; cases h
  | false =>
   cases e3 : l.any badO with
   | true => rw [e1, e2, e3] at h; cases h
   | false =>
    have e1 := of_decide_eq_false e1
    have e2 := of_decide_eq_false e2
    refine ⟨by omega, by omega, fun o ho => ?_⟩
    have := List.any_eq_false.1 e3 o ho
    simp only [badO, Bool.or_eq_true, Bool.not_eq_true', decide_eq_false_iff_not, not_or, Classical.not_not] at this
    exact ⟨this.1, this.2.1, this.2.2⟩
end Go.Proofs.YtjcnfpfldocpdaaGreatDoor

namespace Go.Proofs.YtjcnfpfldocpdaaGreatDoor
open Go.RowKit
set_option linter.unusedVariables false

def dyl (l : List Od) (i : Nat) : Nat := (l.getD i d3).1.toNat
def fnl (l : List Od) (i : Nat) : Int := (l.getD i d3).2.1
def mem (s : List Int) (i : Nat) : Bool := s.contains (i : Int)
structure Ix (n : Nat) (s : List Int) : Prop where
 rng : ∀ i ∈ s, 0 ≤ i ∧ i < n
 nd : s.Nodup
theorem mem_cons (x : Nat) (s : List Int) (i : Nat) : mem ((x : Int) :: s) i = ins (mem s) x i := by
 simp only [mem, ins, List.contains_cons]
 by_cases h : i = x
 ·subst h; simp
 ·have h1 : ((i : Int) == (x : Int)) = false := by simp; omega
  have h2 : (i == x) = false := by simpa using h
  rw [h1, h2, Bool.false_or, Bool.or_false]
def fo : Nat → List Int → Int
 | _, [] => 0
 | k, d :: r => cond (decide (((k + 1 : Nat) : Int) > d)) d (fo (k + 1) r)
def FO (dy : Nat → Nat) (n : Nat) (S : Nat → Bool) (v : Int) : Prop := (v = 0 ∧ Pos dy n S) ∨ ∃ d : Nat, v = d ∧ 1 ≤ d ∧ d < by_ dy n S d ∧ ∀ d', d' < d → by_ dy n S d' ≤ d'
theorem FO.zero {dy : Nat → Nat} {n : Nat} {S : Nat → Bool} {v : Int} (h : FO dy n S v) : v = 0 ↔ Pos dy n S := by
 rcases h with ⟨h1, h2⟩ | ⟨d, h1, h2, h3, h4⟩
 ·exact ⟨fun _ => h2, fun _ => h1⟩
 ·exact ⟨fun h => by omega, fun h => by have := h d; omega⟩
theorem FO.congr {dy : Nat → Nat} {n : Nat} {S T : Nat → Bool} {v : Int} (h : FO dy n S v) (hst : ∀ i, i < n → S i = T i) : FO dy n T v := by
 have e : ∀ d, by_ dy n T d = by_ dy n S d := fun d => cnt_congr fun i hi => by rw [hst i hi]
 rcases h with ⟨h1, h2⟩ | ⟨d, h1, h2, h3, h4⟩
 ·exact .inl ⟨h1, fun d => by rw [e]; exact h2 d⟩
 ·exact .inr ⟨d, h1, h2, by rw [e]; exact h3, fun d' hd => by rw [e]; exact h4 d' hd⟩
def daysOf (l : List Od) (s : List Int) : List Int := s.map fun i => (l.getD i.toNat d3).1
end Go.Proofs.YtjcnfpfldocpdaaGreatDoor

namespace Go.Proofs.YtjcnfpfldocpdaaGreatDoor
open Go.RowKit
set_option linter.unusedVariables false

def cmpI (x y : Int) : Int := cond (decide (x < y)) (-1) (cond (decide (x > y)) 1 0)
theorem cmpI_lt (x y : Int) : decide (cmpI x y < 0) = decide (x < y) := by
 unfold cmpI
 by_cases h : x < y
 ·simp [h]
 ·by_cases g : x > y <;> simp [h, g]
def B85 (x : Int) : Option Bool := some false
theorem KB85 : FnOk Tryz.prog 85 (F85 B85) := ok85 B85 fun x r h => ⟨0, by rw [← h]; simp [m85, B85]⟩
def B65 (x y : Int) : Option Int := some (cmpI x y)
theorem KB65 : FnOk Tryz.prog 65 (F65 B65) := ok65 B85 KB85 B65 fun x y r h => ⟨0, by
 rw [← h]; simp only [m65, B85, B65, Option.bind_some, cond_false, cmpI]
 cases decide (x < y) <;> cases decide (x > y) <;> rfl⟩
def B64 (a b : Od) : Option Int := some (cmpI a.2.1 b.2.1)
theorem KB64 : FnOk Tryz.prog 64 (F64 B64) := ok64 B65 KB65 B64 fun a b r h => ⟨0, by rw [← h]; rfl⟩
def inR (l : List Od) (i : Int) : Bool := decide (0 ≤ i ∧ i < (l.length : Int))
def insRev (lt : Int → Int → Bool) (x : Int) : List Int → List Int
 | [] => [x]
 | y :: r => cond (lt x y) (y :: insRev lt x r) (x :: y :: r)
def isortR (lt : Int → Int → Bool) (L : List Int) : List Int := (L.foldl (fun P x => insRev lt x P) []).reverse
structure CmpOk (cmp : Int → Int → List Od → Option (Int × List Od)) (lt : Int → Int → Bool) (l : List Od) : Prop where
 ok : ∀ a b, inR l a = true → inR l b = true → ∃ v, cmp a b l = some (v, l) ∧ decide (v < 0) = lt a b
def lt78 (l : List Od) (a b : Int) : Bool := decide ((l.getD b.toNat d3).2.1 < (l.getD a.toNat d3).2.1)
end Go.Proofs.YtjcnfpfldocpdaaGreatDoor

namespace Go.Proofs.YtjcnfpfldocpdaaGreatDoor
open Go.RowKit
set_option linter.unusedVariables false

def ixs (n : Nat) : List Int := (List.range n).map Int.ofNat
def byFine (l : List Od) : List Int := isortR (lt78 l) (ixs l.length)
def grd (l : List Od) : List Int → List Int → List Int
 | [], s => s
 | i :: r, s => cond (s.contains i) (grd l r s) (cond (fo 0 (srt (daysOf l (s ++ [i]))) == 0) (grd l r (s ++ [i])) (grd l r s))
def greedy (l : List Od) (s : List Int) : List Int := srt (grd l (byFine l) s)
structure GI (l : List Od) (A : Nat → Bool) (D : List Int) (s : List Int) : Prop where
 ix : Ix l.length s
 pos : Pos (dyl l) l.length (mem s)
 sub : ∀ i, i < l.length → A i = true → mem s i = true
 J : ∀ i : Nat, mem s i = true → A i = true ∨ (i : Int) ∈ D
 K : ∀ e : Nat, e < l.length → (e : Int) ∈ D → mem s e = false → ¬ Pos (dyl l) l.length (ins (fun i => mem s i && (A i || bef (fnl l) i e)) e)
def B35 (s : List Int) (v : Int) : Option Bool := if s.length ≤ 1000 then some (s.contains v) else none
def B63 (s : List Int) (v : Int) : Option Int := if s.length ≤ 1000 then some (fx (fun x => v == x) 0 s) else none
theorem KB63 : FnOk Tryz.prog 63 (F63 B63) := ok63 B63 fun s v r h => ⟨1001, by
 simp only [B63] at h
 split at h
 ·rename_i hl
  rw [← h, m63]
  exact rangeIx s 0 (fun n (_ : Unit) t => l63a 1001 s v n t) (fun _ _ _ => True) (fun t xs _ => some (fx (fun x => v == x) t xs))
   (fun n _ t x rest ht hx _ ih => by
    simp only [l63a, ixA ht, ixB ht, cond_true, chk_true, Int.toNat_natCast, ixW ht (by omega), hx, ih () trivial, fx]
    cases v == x <;> rfl)
   (fun n _ _ => by simp only [l63a, ixE, cond_false]; rfl) 1001 () (by omega) trivial
 ·cases h⟩
theorem KB35 : FnOk Tryz.prog 35 (F35 B35) := ok35 B63 KB63 B35 fun s v r h => ⟨0, by
 simp only [B35] at h
 split at h
 ·rename_i hl
  rw [← h, m35, B63, if_pos hl, Option.bind_some, fx_ge _ s 0 (by omega), List.contains_eq_any_beq]
 ·cases h⟩
end Go.Proofs.YtjcnfpfldocpdaaGreatDoor

namespace Go.Proofs.YtjcnfpfldocpdaaGreatDoor
open Go.RowKit
set_option linter.unusedVariables false

def putO (x : Od) : List Od → List Od
 | [] => [x]
 | y :: r => if y.2.1 < x.2.1 then x :: y :: r else y :: putO x r
def FallO (p : List Od) : Prop := p.Pairwise fun a b => b.2.1 ≤ a.2.1
theorem putO_mem {x : Od} : ∀ {p : List Od} {y : Od}, y ∈ putO x p ↔ y = x ∨ y ∈ p
 | [], y => by simp [putO]
 | z :: r, y => by
  unfold putO
  split
  ·simp
  ·simp only [List.mem_cons, putO_mem (p := r)]
   constructor
   ·rintro (h | h | h)
    ·exact .inr (.inl h)
    ·exact .inl h
    ·exact .inr (.inr h)
   ·rintro (h | h | h)
    ·exact .inr (.inl h)
    ·exact .inl h
    ·exact .inr (.inr h)
theorem putO_fall {x : Od} : ∀ {p : List Od}, FallO p → FallO (putO x p)
 | [], _ => by simp [putO, FallO]
 | y :: r, h => by
  obtain ⟨h1, h2⟩ := List.pairwise_cons.1 h
  unfold putO
  split
  ·rename_i hlt
   refine List.pairwise_cons.2 ⟨fun z hz => ?_, h⟩
   rcases List.mem_cons.1 hz with rfl | hz
   ·omega
   ·have := h1 z hz; omega
  ·rename_i hlt
   refine List.pairwise_cons.2 ⟨fun z hz => ?_, putO_fall h2⟩
   rcases putO_mem.1 hz with rfl | hz
   ·omega
   ·exact h1 z hz
theorem putO_len {x : Od} : ∀ {p : List Od}, (putO x p).length = p.length + 1
 | [] => rfl
 | y :: r => by
  unfold putO
  split
  ·simp
  ·simp only [List.length_cons, putO_len (p := r)]
theorem putO_split (x : Od) : ∀ {p : List Od}, FallO p → ∃ A B, p = A ++ B ∧ (∀ a ∈ A, x.2.1 ≤ a.2.1) ∧ (∀ b ∈ B, b.2.1 < x.2.1) ∧ putO x p = A ++ x :: B
 | [], _ => ⟨[], [], rfl, by simp, by simp, rfl⟩
 | y :: r, h => by
  obtain ⟨h1, h2⟩ := List.pairwise_cons.1 h
  by_cases hlt : y.2.1 < x.2.1
  ·refine ⟨[], y :: r, rfl, by simp, fun b hb => ?_, by rw [putO, if_pos hlt]; rfl⟩
   rcases List.mem_cons.1 hb with rfl | hb
   ·exact hlt
   ·have := h1 b hb; omega
  ·obtain ⟨A, B, e1, e2, e3, e4⟩ := putO_split x h2
   refine ⟨y :: A, B, by rw [e1]; rfl, fun a ha => ?_, e3, by rw [putO, if_neg hlt, e4]; rfl⟩
   rcases List.mem_cons.1 ha with rfl | ha
   ·omega
   ·exact e2 a ha
instance (p : List Od) : Decidable (FallO p) := by unfold FallO; infer_instance
def B66 (x : Od) (p : List Od) : Option (List Od) := if p.length ≤ 100000 ∧ FallO p then some (putO x p) else none
theorem put_loop (x : Od) {A B : List Od} (hA : ∀ a ∈ A, x.2.1 ≤ a.2.1) (hB : ∀ b ∈ B, b.2.1 < x.2.1) (hl : (A ++ B).length ≤ 100000) (N : Nat) : ∀ (m n : Nat), m ≤ B.length → m < n → l66ca B64 A86 N x (A ++ B) n ((A.length + m : Nat) : Int) = some (A ++ x :: B)
 | 0, n, hm, hn => by
  obtain ⟨k, rfl⟩ : ∃ k, n = k + 1 := ⟨n - 1, by omega⟩
  rw [List.length_append] at hl
  have hins : A86 ((A.length + 0 : Nat) : Int) [x] (A ++ B) = some (A ++ x :: B) := by
   rw [A86, if_pos ⟨by omega, by rw [List.length_append]; omega, rfl, by rw [List.length_append]; omega⟩]
   simp
  cases hz : decide (((A.length + 0 : Nat) : Int) > 0) with
  | false => simp only [l66ca, hz, cond_false, hins, Option.bind_some]
  | true =>
   have hz' : 0 < A.length := by have := of_decide_eq_true hz; omega
   have e : w64 (((A.length + 0 : Nat) : Int) - 1) = ((A.length - 1 : Nat) : Int) := by rw [w64_small (by omega)]; omega
   have hget : (A ++ B).getD (A.length - 1) d3 ∈ A := by
    rw [List.getD_eq_getElem?_getD, List.getElem?_append_left (by omega), List.getElem?_eq_getElem (by omega), Option.getD_some]
    exact List.getElem_mem _
   have h2 := hA _ hget
   have hc : decide (cmpI ((A ++ B).getD (A.length - 1) d3).2.1 x.2.1 < 0) = false := by rw [cmpI_lt]; exact decide_eq_false (by omega)
   simp only [l66ca, hz, cond_true, e, ixB (show A.length - 1 < (A ++ B).length by rw [List.length_append]; omega), chk_true, Int.toNat_natCast, B64, Option.bind_some, hc, cond_false, hins]
 | m + 1, n, hm, hn => by
  obtain ⟨k, rfl⟩ : ∃ k, n = k + 1 := ⟨n - 1, by omega⟩
  have hl' := hl
  rw [List.length_append] at hl
  have hz : decide (((A.length + (m + 1) : Nat) : Int) > 0) = true := decide_eq_true (by omega)
  have e : w64 (((A.length + (m + 1) : Nat) : Int) - 1) = ((A.length + m : Nat) : Int) := by rw [w64_small (by omega)]; omega
  have hget : (A ++ B).getD (A.length + m) d3 ∈ B := by
   rw [List.getD_eq_getElem?_getD, List.getElem?_append_right (by omega), Nat.add_sub_cancel_left, List.getElem?_eq_getElem (by omega), Option.getD_some]
   exact List.getElem_mem _
  have h2 := hB _ hget
  have hc : decide (cmpI ((A ++ B).getD (A.length + m) d3).2.1 x.2.1 < 0) = true := by rw [cmpI_lt]; exact decide_eq_true h2
  have ih := put_loop x hA hB hl' N m k (by omega) (by omega)
  simp only [l66ca, hz, cond_true, e, ixB (show A.length + m < (A ++ B).length by rw [List.length_append]; omega), chk_true, Int.toNat_natCast, B64, Option.bind_some, hc, ih]
theorem KB66 : FnOk Tryz.prog 66 (F66c B66) := ok66c B64 A86 KB64 ok86 B66 fun x p r h => ⟨100001, by
 simp only [B66] at h
 split at h
 ·rename_i hh
  obtain ⟨A, B, rfl, hA, hB, e⟩ := putO_split x hh.2
  rw [← h, m66c, e]
  have := put_loop x hA hB hh.1 100001 B.length 100001 (Nat.le_refl _) (by have := hh.1; rw [List.length_append] at this; omega)
  rw [← List.length_append] at this
  exact this
 ·cases h⟩
def takeO : List Od → Od × Bool × List Od
 | [] => (d3, false, [])
 | x :: r => (x, true, r)
def B67 (p : List Od) : Option (Od × Bool × List Od) := if p.length ≤ 1000000 then some (takeO p) else none
theorem KB67 : FnOk Tryz.prog 67 (F67c B67) := ok67c B67 fun p r h => ⟨0, by
 simp only [B67] at h
 split at h
 ·rw [← h, m67c]
  cases p with
  | nil => rfl
  | cons x r =>
   have h1 : ((((x :: r).length : Nat) : Int) == 0) = false := by simp; omega
   have h2 : decide ((0 : Int) ≤ 0 ∧ (0 : Int) < (((x :: r).length : Nat) : Int)) = true := decide_eq_true (by rw [List.length_cons]; omega)
   have h3 : decide ((0 : Int) ≤ 1 ∧ (1 : Int) ≤ (((x :: r).length : Nat) : Int)) = true := decide_eq_true (by rw [List.length_cons]; omega)
   rw [h1, h2, h3]; rfl
 ·cases h⟩
def dayO (l : List Od) (t : Nat) (Q : List Od) : List Od := l.foldl (fun q o => cond (o.1 == (t : Int)) (putO o q) q) Q
def runO (l : List Od) : Nat → List Od → Int
 | 0, _ => 0
 | t + 1, Q => match dayO l (t + 1) Q with
  | [] => runO l t []
  | o :: r => o.2.1 + runO l t r
def lastO (l : List Od) : Int := l.foldl (fun m o => imax m o.1) 0
def sumO : List Od → Int
 | [] => 0
 | o :: r => o.2.1 + sumO r
def leastO (l : List Od) : Int := sumO l - runO l (lastO l).toNat []
structure Ok6 (l : List Od) : Prop where
 len : l.length ≤ 12
 all : ∀ o ∈ l, (1 ≤ o.1 ∧ o.1 ≤ 60) ∧ 0 ≤ o.2.1 ∧ o.2.1 ≤ 10000
instance (l : List Od) : Decidable (Ok6 l) := decidable_of_iff (l.length ≤ 12 ∧ ∀ o ∈ l, (1 ≤ o.1 ∧ o.1 ≤ 60) ∧ 0 ≤ o.2.1 ∧ o.2.1 ≤ 10000) ⟨fun h => ⟨h.1, h.2⟩, fun h => ⟨h.1, h.2⟩⟩
theorem imax_eq (a b : Int) : imax a b = if a < b then b else a := by
 unfold imax
 by_cases h : a < b <;> simp [h] <;> omega
theorem lastO_le {l : List Od} : ∀ {m : Int}, 0 ≤ m → m ≤ 60 → (∀ o ∈ l, 1 ≤ o.1 ∧ o.1 ≤ 60) → 0 ≤ l.foldl (fun m o => imax m o.1) m ∧ l.foldl (fun m o => imax m o.1) m ≤ 60 ∧ m ≤ l.foldl (fun m o => imax m o.1) m ∧ ∀ o ∈ l, o.1 ≤ l.foldl (fun m o => imax m o.1) m := by
 induction l with
 | nil => intro m h0 h1 _; exact ⟨h0, h1, Int.le_refl _, fun _ h => by cases h⟩
 | cons x r ih =>
  intro m h0 h1 h
  have hx := h x (by simp)
  simp only [List.foldl_cons]
  have hi := imax_eq m x.1
  have hb : 0 ≤ imax m x.1 ∧ imax m x.1 ≤ 60 ∧ m ≤ imax m x.1 ∧ x.1 ≤ imax m x.1 := by rw [hi]; split <;> omega
  obtain ⟨a, b, c, d⟩ := ih hb.1 hb.2.1 (fun o ho => h o (List.mem_cons_of_mem _ ho))
  refine ⟨a, b, by omega, fun o ho => ?_⟩
  rcases List.mem_cons.1 ho with rfl | ho
  ·omega
  ·exact d o ho
theorem sumO_le {l : List Od} (h : ∀ o ∈ l, 0 ≤ o.2.1 ∧ o.2.1 ≤ 10000) : 0 ≤ sumO l ∧ sumO l ≤ 10000 * l.length := by
 induction l with
 | nil => simp [sumO]
 | cons x r ih =>
  have hx := h x (by simp)
  obtain ⟨a, b⟩ := ih fun o ho => h o (List.mem_cons_of_mem _ ho)
  simp only [sumO, List.length_cons]; omega
structure QO (b : Nat) (Q : List Od) : Prop where
 len : Q.length ≤ b
 fall : FallO Q
 all : ∀ o ∈ Q, 0 ≤ o.2.1 ∧ o.2.1 ≤ 10000
theorem QO.put {b : Nat} {Q : List Od} (h : QO b Q) {x : Od} (hx : 0 ≤ x.2.1 ∧ x.2.1 ≤ 10000) : QO (b + 1) (putO x Q) := ⟨by rw [putO_len]; have := h.len; omega, putO_fall h.fall, fun o ho => by
 rcases putO_mem.1 ho with rfl | ho
 ·exact hx
 ·exact h.all o ho⟩
theorem dayO_ok {t : Nat} : ∀ {l : List Od} {b : Nat} {Q : List Od}, (∀ o ∈ l, 0 ≤ o.2.1 ∧ o.2.1 ≤ 10000) → QO b Q → QO (b + l.length) (dayO l t Q)
 | [], b, Q, _, h => h
 | x :: r, b, Q, hl, h => by
  unfold dayO
  simp only [List.foldl_cons]
  have hx := hl x (by simp)
  have hr : ∀ o ∈ r, 0 ≤ o.2.1 ∧ o.2.1 ≤ 10000 := fun o ho => hl o (List.mem_cons_of_mem _ ho)
  cases x.1 == (t : Int) with
  | true =>
   rw [cond_true]
   have := dayO_ok (t := t) hr (h.put hx)
   rw [show b + 1 + r.length = b + (x :: r).length by simp; omega] at this
   exact this
  | false =>
   rw [cond_false]
   have := dayO_ok (t := t) (b := b) (Q := Q) hr h
   exact ⟨by have := this.len; simp only [List.length_cons]; unfold dayO at this; omega, this.fall, this.all⟩
theorem fill_loop {l : List Od} (hl : Ok6 l) {last n : Int} {tb : Int} {t : Nat} (ht : w64 (last - tb) = (t : Int)) {rec : Int → Int → List Od → Option Int} {Q : List Od} {b : Nat} (hQ : QO b Q) (hb : b ≤ 90000) (N : Nat) (hN : 1001 ≤ N) : l36c B66 B67 N l last n tb rec N 0 Q = (B67 (dayO l t Q)).bind fun r => cond r.2.1 (rec (w64 (n - r.1.2.1)) (w64 (tb + 1)) r.2.2) (rec n (w64 (tb + 1)) r.2.2) :=
 rangeInv l d3 (fun k (Q : List Od) t => l36c B66 B67 N l last n tb rec k t Q) (fun xs Q => (∃ b, QO b Q ∧ b + xs.length ≤ 90012) ∧ ∀ o ∈ xs, 0 ≤ o.2.1 ∧ o.2.1 ≤ 10000) (fun xs Q => (B67 (dayO xs t Q)).bind fun r => cond r.2.1 (rec (w64 (n - r.1.2.1)) (w64 (tb + 1)) r.2.2) (rec n (w64 (tb + 1)) r.2.2))
  (fun k Q i x rest hi hx hI ih => by
   obtain ⟨⟨b, hQ, hb⟩, hall⟩ := hI
   simp only [List.length_cons] at hb
   have hbl := hQ.len
   have hput : B66 x Q = some (putO x Q) := if_pos ⟨by omega, hQ.fall⟩
   have hle := hl.len
   simp only [l36c, ixA hi, ixB hi, cond_true, chk_true, Int.toNat_natCast, ixW hi (by omega), hx, ht, hput, Option.bind_some]
   have hall' : ∀ o ∈ rest, 0 ≤ o.2.1 ∧ o.2.1 ≤ 10000 := fun o ho => hall o (List.mem_cons_of_mem _ ho)
   rw [ih (putO x Q) ⟨⟨b + 1, hQ.put (hall x (by simp)), by omega⟩, hall'⟩, ih Q ⟨⟨b, hQ, by omega⟩, hall'⟩]
   show _ = (B67 (dayO rest t (cond (x.1 == (t : Int)) (putO x Q) Q))).bind _
   cases x.1 == (t : Int) <;> rfl)
  (fun k Q hI => by simp only [l36c, ixE, cond_false]; rfl) N Q (by have := hl.len; omega) ⟨⟨b, hQ, by have := hl.len; omega⟩, fun o ho => (hl.all o ho).2⟩
theorem back_loop {l : List Od} (hl : Ok6 l) {L : Nat} (hL : L ≤ 60) (N : Nat) (hN : 1001 ≤ N) : ∀ (t k : Nat) (n : Int) (Q : List Od), t ≤ L → t < k → QO (12 * (60 - t)) Q → -1000000 + 10000 * (t : Int) ≤ n ∧ n ≤ 1000000 → l36b B66 B67 N l (L : Int) k n ((L - t : Nat) : Int) Q = some (n - runO l t Q) := by
 intro t
 induction t with
 | zero =>
  intro k n Q h1 h2 hQ hn
  obtain ⟨k, rfl⟩ : ∃ m, k = m + 1 := ⟨k - 1, by omega⟩
  simp only [l36b, Nat.sub_zero, ixE, cond_false, runO, Int.sub_zero]
 | succ t ih =>
  intro k n Q h1 h2 hQ hn
  obtain ⟨k, rfl⟩ : ∃ m, k = m + 1 := ⟨k - 1, by omega⟩
  have hf : ∀ o ∈ l, 0 ≤ o.2.1 ∧ o.2.1 ≤ 10000 := fun o ho => (hl.all o ho).2
  have hd := dayO_ok (t := t + 1) hf hQ
  have hlen := hl.len
  have e1 : w64 ((L : Int) - ((L - (t + 1) : Nat) : Int)) = ((t + 1 : Nat) : Int) := by rw [w64_small (by omega)]; omega
  have e2 : w64 (((L - (t + 1) : Nat) : Int) + 1) = ((L - t : Nat) : Int) := by rw [w64_small (by omega)]; omega
  have hd' : QO (12 * (60 - t)) (dayO l (t + 1) Q) := ⟨by have := hd.len; omega, hd.fall, hd.all⟩
  simp only [l36b, decide_eq_true (show ((L - (t + 1) : Nat) : Int) < (L : Int) by omega), cond_true]
  rw [fill_loop hl e1 hQ (by omega) N hN, B67, if_pos (by have := hd'.len; omega), Option.bind_some, e2]
  simp only [runO]
  cases he : dayO l (t + 1) Q with
  | nil =>
   simp only [takeO, cond_false]
   exact ih k n [] (by omega) (by omega) ⟨by simp, by simp [FallO], by simp⟩ (by omega)
  | cons o r =>
   rw [he] at hd'
   have ho := hd'.all o (by simp)
   have hr : QO (12 * (60 - t)) r := ⟨by have := hd'.len; simp only [List.length_cons] at this; omega, (List.pairwise_cons.1 hd'.fall).2, fun o ho => hd'.all o (List.mem_cons_of_mem _ ho)⟩
   simp only [takeO, cond_true]
   rw [w64_small (by omega), ih k _ r (by omega) (by omega) hr (by omega)]
   congr 1; omega
def B36 (l : List Od) : Option Int := if Ok6 l then some (leastO l) else none
theorem KB36 : FnOk Tryz.prog 36 (F36 B36) := ok36 B66 B67 KB66 KB67 B36 fun l r h => ⟨1001, by
 simp only [B36] at h
 split at h
 ·rename_i hl
  rw [← h, m36]
  obtain ⟨c1, c2, _, _⟩ := lastO_le (l := l) (m := 0) (by omega) (by omega) fun o ho => (hl.all o ho).1
  obtain ⟨s1, s2⟩ := sumO_le fun o ho => (hl.all o ho).2
  have hlen := hl.len
  obtain ⟨L, hL⟩ : ∃ L : Nat, lastO l = L := ⟨(lastO l).toNat, by unfold lastO; omega⟩
  have main := rangeInv l d3 (fun k (s : Int × Int) t => l36a B66 B67 1001 l k s.1 s.2 t) (fun xs s => 0 ≤ s.2 ∧ s.2 + sumO xs ≤ 1000000 ∧ xs.foldl (fun m o => imax m o.1) s.1 = lastO l ∧ ∀ o ∈ xs, 0 ≤ o.2.1 ∧ o.2.1 ≤ 10000) (fun xs s => some (s.2 + sumO xs - runO l (lastO l).toNat []))
   (fun k s t x rest ht hx hI ih => by
    obtain ⟨i1, i2, i3, i4⟩ := hI
    have hx0 := i4 x (by simp)
    have hr0 : ∀ o ∈ rest, 0 ≤ o.2.1 ∧ o.2.1 ≤ 10000 := fun o ho => i4 o (List.mem_cons_of_mem _ ho)
    have := sumO_le hr0
    simp only [sumO] at i2 ⊢
    simp only [l36a, ixA ht, ixB ht, cond_true, chk_true, Int.toNat_natCast, ixW ht (by omega), hx]
    rw [w64_small (by omega), ih (imax s.1 x.1, s.2 + x.2.1) ⟨by show 0 ≤ s.2 + x.2.1; omega, by show s.2 + x.2.1 + sumO rest ≤ _; omega, i3, hr0⟩]
    show some (s.2 + x.2.1 + sumO rest - _) = _
    congr 1; omega)
   (fun k s hI => by
    obtain ⟨i1, i2, i3, i4⟩ := hI
    simp only [List.foldl_nil] at i3
    simp only [sumO, Int.add_zero] at i2 ⊢
    simp only [l36a, ixE, cond_false, i3, hL, Int.toNat_natCast]
    have hL6 : (L : Int) ≤ 60 := by rw [← hL]; exact c2
    have := back_loop hl (L := L) (by omega) 1001 (by omega) L 1001 s.2 [] (Nat.le_refl _) (by omega) ⟨by simp, by simp [FallO], by simp⟩ (by omega)
    rw [Nat.sub_self] at this
    exact this) 1001 (0, 0) (by omega) ⟨by simp, by simp; omega, rfl, fun o ho => (hl.all o ho).2⟩
  rw [main]; simp [leastO]
 ·cases h⟩
theorem qput_map (l : List Od) (i : Nat) : ∀ Q : List Nat, putO (l.getD i d3) (Q.map fun j => l.getD j d3) = (qput (fnl l) i Q).map fun j => l.getD j d3
 | [] => rfl
 | j :: r => by
  simp only [List.map_cons, putO, qput]
  have e : fnl l j < fnl l i ↔ (l.getD j d3).2.1 < (l.getD i d3).2.1 := Iff.rfl
  by_cases h : (l.getD j d3).2.1 < (l.getD i d3).2.1
  ·rw [if_pos h, if_pos (e.2 h)]; rfl
  ·rw [if_neg h, if_neg fun q => h (e.1 q), qput_map l i r]; rfl
theorem map_range (l : List Od) : ((List.range l.length).map fun j => l.getD j d3) = l := by
 apply List.ext_getElem
 ·simp
 ·intro i h1 h2
  simp [List.getD, List.getElem?_eq_getElem h2]
theorem day_map {l : List Od} (h1 : ∀ o ∈ l, 1 ≤ o.1) (t : Nat) (Q : List Nat) : dayO l t (Q.map fun j => l.getD j d3) = (qday (dyl l) (fnl l) l.length t Q).map fun j => l.getD j d3 := by
 have key : ∀ (I : List Nat) (Q : List Nat), (∀ i ∈ I, i < l.length) → ((I.map fun j => l.getD j d3).foldl (fun q o => cond (o.1 == (t : Int)) (putO o q) q) (Q.map fun j => l.getD j d3)) = (I.foldl (fun q i => if dyl l i = t then qput (fnl l) i q else q) Q).map fun j => l.getD j d3 := by
  intro I
  induction I with
  | nil => intro Q _; rfl
  | cons i I ih =>
   intro Q hI
   simp only [List.map_cons, List.foldl_cons]
   have hi := hI i (by simp)
   have hd := h1 _ (List.getElem_mem hi)
   have hg : l.getD i d3 = l[i] := by simp [List.getD, List.getElem?_eq_getElem hi]
   have e : dyl l i = t ↔ (l.getD i d3).1 = (t : Int) := by unfold dyl; rw [hg]; omega
   by_cases h : dyl l i = t
   ·have hb : ((l.getD i d3).1 == (t : Int)) = true := by simpa using e.1 h
    rw [hb, cond_true, if_pos h, qput_map, ih _ fun j hj => hI j (List.mem_cons_of_mem _ hj)]
   ·have hb : ((l.getD i d3).1 == (t : Int)) = false := by
     cases q : ((l.getD i d3).1 == (t : Int)) with
     | false => rfl
     | true => exact absurd (e.2 (by simpa using q)) h
    rw [hb, cond_false, if_neg h, ih _ fun j hj => hI j (List.mem_cons_of_mem _ hj)]
 have := key (List.range l.length) Q fun i hi => List.mem_range.1 hi
 rw [map_range] at this
 exact this
theorem runO_run {l : List Od} (h1 : ∀ o ∈ l, 1 ≤ o.1) : ∀ (t : Nat) (Q : List Nat), runO l t (Q.map fun j => l.getD j d3) = run (dyl l) (fnl l) l.length t Q
 | 0, Q => rfl
 | t + 1, Q => by
  simp only [runO, run]
  rw [day_map h1]
  cases qday (dyl l) (fnl l) l.length (t + 1) Q with
  | nil => exact runO_run h1 t []
  | cons i r => simp only [List.map_cons]; rw [runO_run h1 t r]; rfl
def tot (l : List Od) : Int := ws (fnl l) (fun _ => true) l.length
theorem ws_shift (f : Nat → Int) (p : Nat → Bool) : ∀ n, ws f p (n + 1) = cond (p 0) (f 0) 0 + ws (fun i => f (i + 1)) (fun i => p (i + 1)) n
 | 0 => by simp [ws]
 | n + 1 => by
  rw [ws, ws_shift f p n]; simp only [ws]; omega
theorem sumO_tot : ∀ l : List Od, sumO l = tot l
 | [] => rfl
 | x :: r => by
  have := ws_shift (fnl (x :: r)) (fun _ => true) r.length
  rw [sumO, sumO_tot r]; exact this.symm
theorem fnl_rng {l : List Od} {M : Int} (h : ∀ o ∈ l, 0 ≤ o.2.1 ∧ o.2.1 ≤ M) {i : Nat} (hi : i < l.length) : 0 ≤ fnl l i ∧ fnl l i ≤ M := by
 have := h _ (List.getElem_mem hi)
 simpa [fnl, List.getD, List.getElem?_eq_getElem hi] using this
theorem dyl_rng {l : List Od} {M : Nat} (h : ∀ o ∈ l, 1 ≤ o.1 ∧ o.1 ≤ (M : Int)) {i : Nat} (hi : i < l.length) : 1 ≤ dyl l i ∧ dyl l i ≤ M := by
 have := h _ (List.getElem_mem hi)
 have e : dyl l i = (l[i]).1.toNat := by simp [dyl, List.getD, List.getElem?_eq_getElem hi]
 rw [e]; omega
theorem leastO_ok {l : List Od} (h : Ok6 l) : (∀ T, Pos (dyl l) l.length T → leastO l ≤ tot l - ws (fnl l) T l.length) ∧ ∃ T, Pos (dyl l) l.length T ∧ leastO l = tot l - ws (fnl l) T l.length := by
 obtain ⟨c1, c2, _, c4⟩ := lastO_le (l := l) (m := 0) (by omega) (by omega) fun o ho => (h.all o ho).1
 have hL : ∀ i, i < l.length → dyl l i ≤ (lastO l).toNat := fun i hi => by
  have := c4 _ (List.getElem_mem hi)
  have e : dyl l i = (l[i]).1.toNat := by simp [dyl, List.getD, List.getElem?_eq_getElem hi]
  rw [e]; unfold lastO; omega
 obtain ⟨o1, T, o2, o3⟩ := run_opt (dy := dyl l) (f := fnl l) (n := l.length) (fun i hi => (fnl_rng (fun o ho => (h.all o ho).2) hi).1) hL
 have e := runO_run (fun o ho => (h.all o ho).1.1) (lastO l).toNat []
 rw [List.map_nil] at e
 unfold leastO
 rw [sumO_tot, e]
 exact ⟨fun T hT => by have := o1 T hT; omega, T, o2, by rw [o3]⟩
end Go.Proofs.YtjcnfpfldocpdaaGreatDoor

namespace Go.Proofs.YtjcnfpfldocpdaaGreatDoor
open Go.RowKit
set_option linter.unusedVariables false

theorem wrap_i64 {n : Nat} (h : n < 9223372036854775808) : IntKind.wrap .i64 (n : Int) = n := w64_nat h
def tb (k : Nat) : Nat → Bool := fun i => k.testBit i
def fod (dy : Nat → Nat) (n : Nat) (S : Nat → Bool) : Nat → Nat → Int
 | 0, _ => 0
 | m + 1, d => if d < by_ dy n S d then (d : Int) else fod dy n S m (d + 1)
def ofm (l : List Od) (k : Nat) : Int := fod (dyl l) l.length (tb k) 60 1
theorem Ok6.dy {l : List Od} (h : Ok6 l) {i : Nat} (hi : i < l.length) : 1 ≤ dyl l i ∧ dyl l i ≤ 60 := dyl_rng (M := 60) (fun o ho => (h.all o ho).1) hi
theorem Ok6.fn {l : List Od} (h : Ok6 l) {i : Nat} (hi : i < l.length) : 0 ≤ fnl l i ∧ fnl l i ≤ (10000 : Nat) := fnl_rng (M := 10000) (fun o ho => (h.all o ho).2) hi
def mok (k : Int) : Prop := 0 ≤ k ∧ k < 4611686018427387904
instance (k : Int) : Decidable (mok k) := by unfold mok; infer_instance
def fim (l : List Od) (k : Nat) : Int := ws (fnl l) (fun i => !tb k i) l.length
def bst (l : List Od) : Nat → Int × List Int
 | 0 => (fim l 0, [])
 | k + 1 => if (bst l k).1 < fim l k then bst l k else if 0 < ofm l k then bst l k else if fim l k < (bst l k).1 then (fim l k, [(k : Int)]) else ((bst l k).1, (bst l k).2 ++ [(k : Int)])
def psm (l : List Od) (k : Nat) : Bool := decide (ofm l k = 0)
structure BI (l : List Od) (K : Nat) : Prop where
 low : ∀ k, k < K → psm l k = true → (bst l K).1 ≤ fim l k
 at_ : (∃ k, k < K ∧ psm l k = true ∧ fim l k = (bst l K).1) ∨ K = 0
 set : (bst l K).2 = ((List.range K).filter fun k => psm l k && decide (fim l k = (bst l K).1)).map Int.ofNat
def BestS (l : List Od) (T : Nat → Bool) : Prop := Pos (dyl l) l.length T ∧ ws (fnl l) T l.length = tot l - leastO l
theorem Pos.congr {dy : Nat → Nat} {n : Nat} {S T : Nat → Bool} (h : Pos dy n S) (hst : ∀ i, i < n → T i = S i) : Pos dy n T := h.sub fun i hi q => by rw [← hst i hi]; exact q
theorem BestS.congr {l : List Od} {S T : Nat → Bool} (h : BestS l S) (hst : ∀ i, i < l.length → T i = S i) : BestS l T := ⟨h.1.congr hst, by rw [ws_congr hst fun _ _ _ => rfl]; exact h.2⟩
end Go.Proofs.YtjcnfpfldocpdaaGreatDoor

namespace Go.Proofs.YtjcnfpfldocpdaaGreatDoor
open Go.RowKit
set_option linter.unusedVariables false

theorem OkO.six {l : List Od} (h : OkO l) : Ok6 l := ⟨h.len, fun o ho => by have := h.all o ho; omega⟩
theorem okO_of {l : List Od} (h : ckO l = 0) : Ok6 l := (ckO_ok h).six
theorem bne_F {x : Int} (h : x = 0) : (x != 0) = false := by simp [h]
theorem bne_T {x : Int} (h : ¬ x = 0) : (x != 0) = true := by simp [h]
theorem beq_F {x : Int} (h : ¬ x = 0) : (x == 0) = false := by simp [h]
theorem beq_T {x : Int} (h : x = 0) : (x == 0) = true := by simp [h]
def lea (l : List Od) : Int × Int := if ckO l = 0 then (leastO l, 0) else (0, ckO l)
def B10 (l : List Od) : Option (Int × Int) := if l.length ≤ 1000 then some (lea l) else none
theorem B53_ok {l : List Od} (h : Ok6 l) : B36 l = some (leastO l) := if_pos h
theorem KB10 : FnOk Tryz.prog 10 (F10 B10) := ok10 B33 B36 KB33 KB36 B10 fun l r h => ⟨0, by
 simp only [B10] at h
 split at h
 ·rename_i hl
  rw [← h, m10, B33, if_pos hl, Option.bind_some, lea]
  by_cases hc : ckO l = 0
  ·rw [if_pos hc, bne_F hc, cond_false, B53_ok (okO_of hc), Option.bind_some]
  ·rw [if_neg hc, bne_T hc, cond_true]
 ·cases h⟩
end Go.Proofs.YtjcnfpfldocpdaaGreatDoor
