/-
 Orders and days; the program's functions as plain functions: up to the best set.
-/
import Derived.Test.YtjcnfpfldocpdaaGreatDoorP0
import Derived.Test.YtjcnfpfldocpdaaGreatDoorINS
import Derived.Test.YtjcnfpfldocpdaaGreatDoorLBM
namespace Go.Proofs.YtjcnfpfldocpdaaGreatDoor

def cnt (p : Nat → Bool) : Nat → Nat
 | 0 => 0
 | n + 1 => cnt p n + (p n).toNat
theorem cnt_congr {p q : Nat → Bool} : ∀ {n : Nat}, (∀ i, i < n → p i = q i) → cnt p n = cnt q n
 | 0, _ => rfl
 | n + 1, h => by simp only [cnt]; rw [cnt_congr fun i hi => h i (by omega), h n (by omega)]
theorem cnt_le {p q : Nat → Bool} : ∀ {n : Nat}, (∀ i, i < n → p i = true → q i = true) → cnt p n ≤ cnt q n
 | 0, _ => Nat.le_refl _
 | n + 1, h => by
  simp only [cnt]
  have := cnt_le (n := n) fun i hi => h i (by omega)
  have := h n (by omega)
  cases hp : p n <;> cases hq : q n <;> simp_all <;> omega
theorem cnt_split (p q : Nat → Bool) : ∀ n : Nat, cnt p n = cnt (fun i => p i && q i) n + cnt (fun i => p i && !q i) n
 | 0 => rfl
 | n + 1 => by
  simp only [cnt]
  have := cnt_split p q n
  cases hp : p n <;> cases hq : q n <;> simp_all <;> omega
theorem cnt_or {p q : Nat → Bool} : ∀ {n : Nat}, (∀ i, i < n → p i = true → q i = false) → cnt (fun i => p i || q i) n = cnt p n + cnt q n
 | 0, _ => rfl
 | n + 1, h => by
  simp only [cnt]
  have := cnt_or (n := n) fun i hi => h i (by omega)
  have := h n (by omega)
  cases hp : p n <;> cases hq : q n <;> simp_all <;> omega
theorem cnt_one (p : Nat → Bool) (e : Nat) : ∀ n : Nat, cnt (fun i => p i && i == e) n = if e < n ∧ p e = true then 1 else 0
 | 0 => rfl
 | n + 1 => by
  simp only [cnt]
  rw [cnt_one p e n]
  by_cases h : n = e
  ·subst h
   cases hp : p n <;> simp
  ·have : (n == e) = false := by simpa using h
   rw [this, Bool.and_false]
   by_cases h1 : e < n
   ·have : e < n + 1 := by omega
    simp [h1, this]
   ·have : ¬ e < n + 1 := by omega
    simp [h1, this]
theorem cnt_zero {p : Nat → Bool} {n : Nat} (h : ∀ i, i < n → p i = false) : cnt p n = 0 := by
 rw [cnt_congr (q := fun _ => false) h]
 induction n with
 | zero => rfl
 | succ n ih => simp only [cnt, Bool.toNat_false, Nat.add_zero]; exact ih fun i hi => h i (by omega)
theorem cnt_ex {p q : Nat → Bool} : ∀ {n : Nat}, cnt p n < cnt q n → ∃ i, i < n ∧ q i = true ∧ p i = false
 | 0, h => by simp [cnt] at h
 | n + 1, h => by
  by_cases h1 : cnt p n < cnt q n
  ·obtain ⟨i, a, b⟩ := cnt_ex h1; exact ⟨i, by omega, b⟩
  ·refine ⟨n, by omega, ?_⟩
   simp only [cnt] at h
   cases hp : p n <;> cases hq : q n <;> simp_all <;> omega
theorem cnt_le_n (p : Nat → Bool) : ∀ n : Nat, cnt p n ≤ n
 | 0 => Nat.le_refl _
 | n + 1 => by simp only [cnt]; have := cnt_le_n p n; cases p n <;> simp <;> omega
def ins (p : Nat → Bool) (e : Nat) : Nat → Bool := fun i => p i || i == e
def del (p : Nat → Bool) (e : Nat) : Nat → Bool := fun i => p i && !(i == e)
theorem cnt_ins {p : Nat → Bool} {e n : Nat} (h : e < n) (hp : p e = false) (r : Nat → Bool) : cnt (fun i => ins p e i && r i) n = cnt (fun i => p i && r i) n + (r e).toNat := by
 have h1 : cnt (fun i => ins p e i && r i) n = cnt (fun i => (p i && r i) || (r i && i == e)) n := cnt_congr fun i _ => by
  simp only [ins]; cases p i <;> cases r i <;> simp
 rw [h1, cnt_or, cnt_one]
 ·cases hr : r e <;> simp [h]
 ·intro i hi hpi
  simp only [Bool.and_eq_true] at hpi
  cases hie : i == e
  ·simp
  ·have : i = e := by simpa using hie
   subst this; rw [hp] at hpi; simp at hpi
theorem cnt_del {p : Nat → Bool} {e n : Nat} (h : e < n) (hp : p e = true) (r : Nat → Bool) : cnt (fun i => del p e i && r i) n + (r e).toNat = cnt (fun i => p i && r i) n := by
 have h1 := cnt_split (fun i => p i && r i) (fun i => i == e) n
 have h2 : cnt (fun i => p i && r i && (i == e)) n = (r e).toNat := by
  rw [cnt_one (fun i => p i && r i) e n]; simp [h, hp]; cases r e <;> rfl
 have h3 : cnt (fun i => p i && r i && !(i == e)) n = cnt (fun i => del p e i && r i) n := cnt_congr fun i _ => by
  simp only [del]; cases p i <;> cases r i <;> simp
 omega
def ws (f : Nat → Int) (p : Nat → Bool) : Nat → Int
 | 0 => 0
 | n + 1 => ws f p n + cond (p n) (f n) 0
theorem ws_congr {f g : Nat → Int} {p q : Nat → Bool} : ∀ {n : Nat}, (∀ i, i < n → p i = q i) → (∀ i, i < n → p i = true → f i = g i) → ws f p n = ws g q n
 | 0, _, _ => rfl
 | n + 1, h, hf => by
  simp only [ws]
  rw [ws_congr (fun i hi => h i (by omega)) (fun i hi => hf i (by omega)), ← h n (by omega)]
  cases hp : p n
  ·simp
  ·simp [hf n (by omega) hp]
theorem ws_split (f : Nat → Int) (p q : Nat → Bool) : ∀ n : Nat, ws f p n = ws f (fun i => p i && q i) n + ws f (fun i => p i && !q i) n
 | 0 => rfl
 | n + 1 => by
  simp only [ws]
  have := ws_split f p q n
  cases hp : p n <;> cases hq : q n <;> simp_all <;> omega
theorem ws_or (f : Nat → Int) {p q : Nat → Bool} : ∀ {n : Nat}, (∀ i, i < n → p i = true → q i = false) → ws f (fun i => p i || q i) n = ws f p n + ws f q n
 | 0, _ => rfl
 | n + 1, h => by
  simp only [ws]
  have := ws_or f (n := n) fun i hi => h i (by omega)
  have := h n (by omega)
  cases hp : p n <;> cases hq : q n <;> simp_all <;> omega
theorem ws_one (f : Nat → Int) (p : Nat → Bool) (e : Nat) : ∀ n : Nat, ws f (fun i => p i && i == e) n = if e < n ∧ p e = true then f e else 0
 | 0 => by simp [ws]
 | n + 1 => by
  have ih := ws_one f p e n
  simp only [ws]
  rw [ih]
  by_cases h : n = e
  ·subst h
   cases hp : p n <;> simp
  ·have : (n == e) = false := by simpa using h
   simp only [this, Bool.and_false, cond_false]
   by_cases h1 : e < n
   ·have : e < n + 1 := by omega
    simp [h1, this]
   ·have : ¬ e < n + 1 := by omega
    simp [h1, this]
theorem ws_ins (f : Nat → Int) {p : Nat → Bool} {e n : Nat} (h : e < n) (hp : p e = false) : ws f (ins p e) n = ws f p n + f e := by
 have h1 : ws f (ins p e) n = ws f (fun i => p i || (true && i == e)) n := ws_congr (fun i _ => by simp [ins]) (fun _ _ _ => rfl)
 rw [h1, ws_or f, ws_one f (fun _ => true)]
 ·simp [h]
 ·intro i hi hpi
  cases hie : i == e
  ·simp
  ·have : i = e := by simpa using hie
   subst this; rw [hp] at hpi; cases hpi
theorem ws_del (f : Nat → Int) {p : Nat → Bool} {e n : Nat} (h : e < n) (hp : p e = true) : ws f (del p e) n + f e = ws f p n := by
 have h1 := ws_split f p (fun i => i == e) n
 rw [ws_one f p e n] at h1
 simp only [h, hp, true_and, if_true] at h1
 show ws f (fun i => p i && !(i == e)) n + f e = ws f p n
 omega
section
variable (dy : Nat → Nat) (n : Nat)

def by_ (S : Nat → Bool) (d : Nat) : Nat := cnt (fun i => S i && decide (dy i ≤ d)) n
def aft (S : Nat → Bool) (d : Nat) : Nat := cnt (fun i => S i && !decide (dy i ≤ d)) n
def Pos (S : Nat → Bool) : Prop := ∀ d, by_ dy n S d ≤ d
theorem by_aft (S : Nat → Bool) (d : Nat) : by_ dy n S d + aft dy n S d = cnt S n := (cnt_split S _ n).symm
theorem by_le {S T : Nat → Bool} (h : ∀ i, i < n → S i = true → T i = true) (d : Nat) : by_ dy n S d ≤ by_ dy n T d := cnt_le fun i hi hp => by
 simp only [Bool.and_eq_true] at hp ⊢; exact ⟨h i hi hp.1, hp.2⟩
theorem aft_le {S T : Nat → Bool} (h : ∀ i, i < n → S i = true → T i = true) (d : Nat) : aft dy n S d ≤ aft dy n T d := cnt_le fun i hi hp => by
 simp only [Bool.and_eq_true] at hp ⊢; exact ⟨h i hi hp.1, hp.2⟩
variable {dy n}

theorem Pos.sub {S T : Nat → Bool} (h : Pos dy n T) (hs : ∀ i, i < n → S i = true → T i = true) : Pos dy n S := fun d => Nat.le_trans (by_le dy n hs d) (h d)
theorem Pos.empty : Pos dy n fun _ => false := fun d => by
 have : by_ dy n (fun _ => false) d = 0 := cnt_zero fun i _ => by simp
 omega
theorem by_ins {S : Nat → Bool} {e : Nat} (he : e < n) (hS : S e = false) (d : Nat) : by_ dy n (ins S e) d = by_ dy n S d + (if dy e ≤ d then 1 else 0) := by
 unfold by_
 rw [cnt_ins he hS]
 by_cases h : dy e ≤ d <;> simp [h]
theorem by_del {S : Nat → Bool} {e : Nat} (he : e < n) (hS : S e = true) (d : Nat) : by_ dy n (del S e) d + (if dy e ≤ d then 1 else 0) = by_ dy n S d := by
 unfold by_
 rw [← cnt_del he hS]
 by_cases h : dy e ≤ d <;> simp [h]
def Tight (dy : Nat → Nat) (n : Nat) (S : Nat → Bool) (d : Nat) : Prop := by_ dy n S d = d
theorem tight0 {S : Nat → Bool} (h : Pos dy n S) : Tight dy n S 0 := by
 have := h 0; unfold Tight; omega
theorem tight_le {S : Nat → Bool} {d : Nat} (h : Tight dy n S d) : d ≤ n := by
 have : by_ dy n S d ≤ n := cnt_le_n _ n
 unfold Tight at h; omega
theorem last_tight {S : Nat → Bool} (h : Pos dy n S) : ∃ D, Tight dy n S D ∧ ∀ d, Tight dy n S d → d ≤ D := by
 have key : ∀ k, ∃ D, Tight dy n S D ∧ ∀ d, d ≤ k → Tight dy n S d → d ≤ D := by
  intro k
  induction k with
  | zero => exact ⟨0, tight0 h, fun d hd _ => hd⟩
  | succ k ih =>
   obtain ⟨D, h1, h2⟩ := ih
   by_cases hk : Tight dy n S (k + 1)
   ·exact ⟨k + 1, hk, fun d hd _ => hd⟩
   ·refine ⟨D, h1, fun d hd ht => ?_⟩
    by_cases e : d = k + 1
    ·subst e; exact absurd ht hk
    ·exact h2 d (by omega) ht
 obtain ⟨D, h1, h2⟩ := key n
 exact ⟨D, h1, fun d hd => h2 d (tight_le hd) hd⟩
theorem Tight.up {S T : Nat → Bool} (hs : ∀ i, i < n → S i = true → T i = true) (hT : Pos dy n T) {d : Nat} (h : Tight dy n S d) : Tight dy n T d := by
 have := by_le dy n hs d
 have := hT d
 unfold Tight at *; omega
theorem ins_pos {S : Nat → Bool} (h : Pos dy n S) {e : Nat} (he : e < n) (hS : S e = false) : Pos dy n (ins S e) ↔ ∀ d, dy e ≤ d → ¬ Tight dy n S d := by
 constructor
 ·intro hp d hd ht
  have := hp d
  rw [by_ins he hS] at this
  simp only [hd, if_true] at this
  unfold Tight at ht; omega
 ·intro hn d
  rw [by_ins he hS]
  have h1 := h d
  by_cases hd : dy e ≤ d
  ·have := hn d hd
   unfold Tight at this
   simp only [hd, if_true]; omega
  ·simp only [hd, if_false]; omega
def Max (dy : Nat → Nat) (n : Nat) (E S : Nat → Bool) : Prop := ∀ e, e < n → E e = true → S e = false → ¬ Pos dy n (ins S e)
theorem Max.aft {E S : Nat → Bool} (hp : Pos dy n S) (hm : Max dy n E S) (hsub : ∀ i, i < n → S i = true → E i = true) {D : Nat} (hD : ∀ d, Tight dy n S d → d ≤ D) : aft dy n S D = aft dy n E D := by
 refine Nat.le_antisymm (aft_le dy n hsub D) (cnt_le fun i hi hq => ?_)
 simp only [Bool.and_eq_true, Bool.not_eq_true', decide_eq_false_iff_not] at hq ⊢
 refine ⟨?_, hq.2⟩
 cases hs : S i with
 | true => rfl
 | false =>
  exfalso
  refine hm i hi hq.1 hs ((ins_pos hp hi hs).2 fun d hd ht => ?_)
  have := hD d ht; omega
theorem Max.rank {E S T : Nat → Bool} (hp : Pos dy n S) (hm : Max dy n E S) (hsub : ∀ i, i < n → S i = true → E i = true) (hT : Pos dy n T) (hTE : ∀ i, i < n → T i = true → E i = true) : cnt T n ≤ cnt S n := by
 obtain ⟨D, h1, h2⟩ := last_tight hp
 have h3 := hm.aft hp hsub h2
 have h4 := aft_le dy n hTE D
 have h5 := hT D
 have h6 := by_aft dy n T D
 have h7 := by_aft dy n S D
 unfold Tight at h1; omega
theorem Max.same {E S T : Nat → Bool} (hp : Pos dy n S) (hm : Max dy n E S) (hsub : ∀ i, i < n → S i = true → E i = true) (hT : Pos dy n T) (hTE : ∀ i, i < n → T i = true → E i = true) (hc : cnt T n = cnt S n) {D : Nat} (h1 : Tight dy n S D) (h2 : ∀ d, Tight dy n S d → d ≤ D) : Tight dy n T D := by
 have h3 := hm.aft hp hsub h2
 have h4 := aft_le dy n hTE D
 have h5 := hT D
 have h6 := by_aft dy n T D
 have h7 := by_aft dy n S D
 unfold Tight at *; omega
theorem swap {S X : Nat → Bool} (hp : Pos dy n S) {e : Nat} (he : e < n) (hS : S e = false) (hX : ∀ i, i < n → X i = true → S i = true) (hadd : Pos dy n (ins X e)) (hno : ¬ Pos dy n (ins S e)) : ∃ x, x < n ∧ S x = true ∧ X x = false ∧ Pos dy n (ins (del S x) e) := by
 have hXe : X e = false := by
  cases h : X e with
  | false => rfl
  | true => have := hX e he h; rw [hS] at this; cases this
 -- the first tight day that stands in the way
 have hex : ∃ d, dy e ≤ d ∧ Tight dy n S d := Classical.byContradiction fun hn => hno ((ins_pos hp he hS).2 fun d hd ht => hn ⟨d, hd, ht⟩)
 obtain ⟨d0, ⟨a1, a2⟩, a3⟩ : ∃ d, (dy e ≤ d ∧ Tight dy n S d) ∧ ∀ d', d' < d → ¬ (dy e ≤ d' ∧ Tight dy n S d') := by
  obtain ⟨d, hd⟩ := hex
  induction d using Nat.strongRecOn with
  | _ d ih =>
   by_cases h : ∃ d', d' < d ∧ dy e ≤ d' ∧ Tight dy n S d'
   ·obtain ⟨d', h1, h2⟩ := h; exact ih d' h1 h2
   ·exact ⟨d, hd, fun d' h1 h2 => h ⟨d', h1, h2⟩⟩
 have hXp : Pos dy n X := hp.sub hX
 have h1 := (ins_pos hXp he hXe).1 hadd d0 a1
 have h2 := hXp d0
 have h3 : by_ dy n X d0 < by_ dy n S d0 := by unfold Tight at h1 a2; omega
 obtain ⟨x, b1, b2, b3⟩ := cnt_ex h3
 simp only [Bool.and_eq_true, decide_eq_true_eq, Bool.and_eq_false_iff, decide_eq_false_iff_not] at b2 b3
 have b3' : X x = false := b3.resolve_right (fun h => h b2.2)
 refine ⟨x, b1, b2.1, b3', fun d => ?_⟩
 have hde : del S x e = false := by simp [del, hS]
 rw [by_ins he hde]
 have c1 := by_del (dy := dy) b1 b2.1 d
 have c2 := hp d
 by_cases q1 : dy e ≤ d
 ·simp only [q1, if_true]
  by_cases q2 : d0 ≤ d
  ·have : dy x ≤ d := by omega
   simp only [this, if_true] at c1; omega
  ·have c3 := a3 d (by omega)
   have : ¬ Tight dy n S d := fun h => c3 ⟨q1, h⟩
   unfold Tight at this
   have : by_ dy n (del S x) d ≤ by_ dy n S d := by omega
   omega
 ·simp only [q1, if_false]; omega
theorem added {S T : Nat → Bool} (hS : Pos dy n S) (hT : Pos dy n T) (h : cnt S n < cnt T n) : ∃ e, e < n ∧ T e = true ∧ S e = false ∧ Pos dy n (ins S e) := by
 refine Classical.byContradiction fun hn => ?_
 have hm : Max dy n (fun i => S i || T i) S := fun e he hE hSe hp => hn ⟨e, he, by simpa [hSe] using hE, hSe, hp⟩
 have := hm.rank hS (fun i _ hi => by simp [hi]) hT (fun i _ hi => by simp [hi])
 omega
end

end Go.Proofs.YtjcnfpfldocpdaaGreatDoor

namespace Go.Proofs.YtjcnfpfldocpdaaGreatDoor

def lay (g : Nat → Nat) : Nat → Nat
 | 0 => 0
 | c + 1 => lay g c + g (c + 1)
theorem lay_le {g h : Nat → Nat} : ∀ {M : Nat}, (∀ c, 1 ≤ c → c ≤ M → g c ≤ h c) → lay g M ≤ lay h M
 | 0, _ => Nat.le_refl _
 | M + 1, hc => by
  simp only [lay]
  have h1 := lay_le (M := M) fun c a b => hc c a (by omega)
  have h2 := hc (M + 1) (by omega) (Nat.le_refl _)
  omega
theorem lay_eq {g h : Nat → Nat} : ∀ {M : Nat}, (∀ c, 1 ≤ c → c ≤ M → g c ≤ h c) → lay g M = lay h M → ∀ c, 1 ≤ c → c ≤ M → g c = h c
 | 0, _, _, c, a, b => by omega
 | M + 1, hc, he, c, a, b => by
  simp only [lay] at he
  have h1 := lay_le (M := M) fun c a b => hc c a (by omega)
  have h2 := hc (M + 1) (by omega) (Nat.le_refl _)
  by_cases e : c = M + 1
  ·subst e; omega
  ·exact lay_eq (M := M) (fun c a b => hc c a (by omega)) (by omega) c a (by omega)
theorem lay_add (g h : Nat → Nat) : ∀ M : Nat, lay (fun c => g c + h c) M = lay g M + lay h M
 | 0 => rfl
 | M + 1 => by simp only [lay]; have := lay_add g h M; omega
theorem lay_step (k : Int) (h0 : 0 ≤ k) : ∀ M : Nat, (lay (fun c => (decide ((c : Int) ≤ k)).toNat) M : Int) = if (M : Int) ≤ k then (M : Int) else k
 | 0 => by simp [lay, h0]
 | M + 1 => by
  have ih := lay_step k h0 M
  simp only [lay]
  rw [Int.natCast_add, ih]
  by_cases h1 : ((M + 1 : Nat) : Int) ≤ k
  ·have : (M : Int) ≤ k := by omega
   simp only [h1, this, if_true, decide_true, Bool.toNat_true]; omega
  ·by_cases h2 : (M : Int) ≤ k
   ·have : k = M := by omega
    simp only [h1, h2, if_true, if_false, decide_false, Bool.toNat_false]; omega
   ·simp only [h1, h2, if_false, decide_false, Bool.toNat_false]; omega
theorem lay_zero : ∀ M : Nat, lay (fun _ => 0) M = 0
 | 0 => rfl
 | M + 1 => by simp only [lay]; rw [lay_zero M]
theorem cake {f : Nat → Int} {S : Nat → Bool} {M : Nat} : ∀ {n : Nat}, (∀ i, i < n → S i = true → 0 ≤ f i ∧ f i ≤ M) → ws f S n = (lay (fun c => cnt (fun i => S i && decide ((c : Int) ≤ f i)) n) M : Int)
 | 0, _ => by
  have : lay (fun c => cnt (fun i => S i && decide ((c : Int) ≤ f i)) 0) M = 0 := lay_zero M
  rw [this]; rfl
 | n + 1, h => by
  have ih := cake (n := n) fun i hi hs => h i (by omega) hs
  simp only [ws, cnt]
  rw [ih, lay_add, Int.natCast_add]
  congr 1
  cases hs : S n with
  | false => simp only [Bool.false_and, Bool.toNat_false, cond_false]; rw [lay_zero]; rfl
  | true =>
   obtain ⟨h1, h2⟩ := h n (by omega) hs
   simp only [Bool.true_and, cond_true]
   rw [lay_step (f n) h1 M]
   split <;> omega
section
variable {dy : Nat → Nat} {f : Nat → Int} {n M : Nat}

def bef (f : Nat → Int) (i e : Nat) : Bool := decide (f e < f i) || (decide (f i = f e) && decide (i < e))
structure Gr (dy : Nat → Nat) (f : Nat → Int) (n : Nat) (A G : Nat → Bool) : Prop where
 pos : Pos dy n G
 sub : ∀ i, i < n → A i = true → G i = true
 no : ∀ e, e < n → G e = false → ¬ Pos dy n (ins (fun i => G i && (A i || bef f i e)) e)
theorem ins_sub {X Y : Nat → Bool} {e : Nat} (h : ∀ i, i < n → X i = true → Y i = true) : ∀ i, i < n → ins X e i = true → ins Y e i = true := fun i hi hp => by
 simp only [ins, Bool.or_eq_true] at hp ⊢
 exact hp.imp (h i hi) id
theorem Gr.max {A G : Nat → Bool} (h : Gr dy f n A G) (c : Int) : Max dy n (fun i => A i || decide (c ≤ f i)) (fun i => G i && (A i || decide (c ≤ f i))) := fun e he hE hS hp => by
 simp only [Bool.or_eq_true, decide_eq_true_eq] at hE
 have hG : G e = false := by
  cases hg : G e with
  | false => rfl
  | true => simp only [hg, Bool.true_and, Bool.or_eq_false_iff, decide_eq_false_iff_not] at hS; rcases hE with hE | hE <;> simp_all
 have hA : A e = false := by
  cases ha : A e with
  | false => rfl
  | true => have := h.sub e he ha; rw [hG] at this; cases this
 have hc : c ≤ f e := by rcases hE with hE | hE <;> simp_all
 refine h.no e he hG (hp.sub (ins_sub fun i hi hq => ?_))
 simp only [Bool.and_eq_true, Bool.or_eq_true, bef, decide_eq_true_eq] at hq ⊢
 refine ⟨hq.1, hq.2.imp id fun hq => ?_⟩
 rcases hq with hq | hq <;> omega
theorem Gr.rank {A G T : Nat → Bool} (h : Gr dy f n A G) (hT : Pos dy n T) (hA : ∀ i, i < n → A i = true → T i = true) (c : Int) : cnt (fun i => T i && decide (c ≤ f i)) n ≤ cnt (fun i => G i && decide (c ≤ f i)) n := by
 have hp : Pos dy n (fun i => G i && (A i || decide (c ≤ f i))) := h.pos.sub fun i _ hi => by simp only [Bool.and_eq_true] at hi; exact hi.1
 have hTp : Pos dy n (fun i => T i && (A i || decide (c ≤ f i))) := hT.sub fun i _ hi => by simp only [Bool.and_eq_true] at hi; exact hi.1
 have h1 := (h.max c).rank hp (fun i _ hi => by simp only [Bool.and_eq_true] at hi; exact hi.2) hTp (fun i _ hi => by simp only [Bool.and_eq_true] at hi; exact hi.2)
 have key : ∀ X : Nat → Bool, (∀ i, i < n → A i = true → X i = true) → cnt (fun i => X i && (A i || decide (c ≤ f i))) n = cnt (fun i => X i && decide (c ≤ f i)) n + cnt (fun i => A i && !decide (c ≤ f i)) n := fun X hX => by
  rw [← cnt_or]
  ·refine cnt_congr fun i hi => ?_
   cases ha : A i with
   | true => rw [hX i hi ha]; cases decide (c ≤ f i) <;> rfl
   | false => cases X i <;> cases decide (c ≤ f i) <;> rfl
  ·intro i _ hi
   simp only [Bool.and_eq_true] at hi
   rw [hi.2]; simp
 rw [key T hA, key G h.sub] at h1
 omega
theorem Gr.best {A G T : Nat → Bool} (h : Gr dy f n A G) (hf : ∀ i, i < n → 0 ≤ f i ∧ f i ≤ M) (hT : Pos dy n T) (hA : ∀ i, i < n → A i = true → T i = true) : ws f T n ≤ ws f G n := by
 rw [cake (M := M) fun i hi _ => hf i hi, cake (M := M) fun i hi _ => hf i hi]
 exact Int.ofNat_le.2 (lay_le fun c _ _ => h.rank hT hA c)
theorem Gr.size {A G T : Nat → Bool} (h : Gr dy f n A G) (hf : ∀ i, i < n → 0 ≤ f i) (hT : Pos dy n T) (hA : ∀ i, i < n → A i = true → T i = true) : cnt T n ≤ cnt G n := by
 have h1 := h.rank hT hA 0
 have key : ∀ X : Nat → Bool, cnt (fun i => X i && decide ((0 : Int) ≤ f i)) n = cnt X n := fun X => cnt_congr fun i hi => by simp [hf i hi]
 rw [key, key] at h1
 exact h1
theorem Gr.even {G T : Nat → Bool} (h : Gr dy f n (fun _ => false) G) (hf : ∀ i, i < n → 0 ≤ f i ∧ f i ≤ M) (hT : Pos dy n T) (he : ws f T n = ws f G n) {c : Nat} (h1 : 1 ≤ c) : cnt (fun i => T i && decide ((c : Int) ≤ f i)) n = cnt (fun i => G i && decide ((c : Int) ≤ f i)) n := by
 rw [cake (M := M) fun i hi _ => hf i hi, cake (M := M) fun i hi _ => hf i hi] at he
 by_cases hc : c ≤ M
 ·exact lay_eq (fun c _ _ => h.rank hT (fun i _ h => by cases h) c) (Int.ofNat.inj he) c h1 hc
 ·have : ∀ X : Nat → Bool, cnt (fun i => X i && decide ((c : Int) ≤ f i)) n = 0 := fun X => cnt_zero fun i hi => by
   have := (hf i hi).2
   have : ¬ (c : Int) ≤ f i := by omega
   simp [this]
  rw [this, this]
theorem Gr.first {G S : Nat → Bool} (h : Gr dy f n (fun _ => false) G) (hf : ∀ i, i < n → 0 ≤ f i ∧ f i ≤ M) (hS : Pos dy n S) (he : ws f S n = ws f G n) {e : Nat} (hen : e < n) (hlow : ∀ i, i < e → S i = G i) (h1 : S e = true) (h2 : G e = false) : False := by
 obtain ⟨k, hk⟩ : ∃ k : Nat, f e = k := ⟨(f e).toNat, by have := (hf e hen).1; omega⟩
 -- what is greater; what is alike and comes before
 let X : Nat → Bool := fun i => S i && decide (((k + 1 : Nat) : Int) ≤ f i)
 let Y : Nat → Bool := fun i => G i && decide (((k + 1 : Nat) : Int) ≤ f i)
 let Q : Nat → Bool := fun i => G i && (decide (f i = f e) && decide (i < e))
 have hc : cnt X n = cnt Y n := h.even hf hS he (c := k + 1) (by omega)
 have dX : ∀ i, i < n → X i = true → Q i = false := fun i _ hx => by
  simp only [X, Q, Bool.and_eq_true, decide_eq_true_eq] at hx ⊢
  have : ¬ f i = f e := by omega
  simp [this]
 have dY : ∀ i, i < n → Y i = true → Q i = false := fun i _ hx => by
  simp only [Y, Q, Bool.and_eq_true, decide_eq_true_eq] at hx ⊢
  have : ¬ f i = f e := by omega
  simp [this]
 have hcc : cnt (fun i => X i || Q i) n = cnt (fun i => Y i || Q i) n := by rw [cnt_or dX, cnt_or dY, hc]
 have sG : ∀ i, i < n → (Y i || Q i) = true → G i = true := fun i _ hi => by
  simp only [Y, Q, Bool.or_eq_true, Bool.and_eq_true] at hi
  rcases hi with hi | hi <;> exact hi.1
 have sS : ∀ i, i < n → (X i || Q i) = true → del S e i = true := fun i _ hi => by
  simp only [X, Q, Bool.or_eq_true, Bool.and_eq_true, decide_eq_true_eq] at hi
  simp only [del, Bool.and_eq_true, Bool.not_eq_true', beq_eq_false_iff_ne]
  rcases hi with hi | hi
  ·exact ⟨hi.1, fun q => by subst q; omega⟩
  ·exact ⟨by rw [hlow i hi.2.2]; exact hi.1, by omega⟩
 have hYp : Pos dy n (fun i => Y i || Q i) := h.pos.sub sG
 have hdS : Pos dy n (del S e) := hS.sub fun i _ hi => by simp only [del, Bool.and_eq_true] at hi; exact hi.1
 have hXp : Pos dy n (fun i => X i || Q i) := hdS.sub sS
 -- nothing greater can be added
 have hm : Max dy n (fun i => decide (((k + 1 : Nat) : Int) ≤ f i) || Q i) (fun i => Y i || Q i) := fun e' he' hE hY hp => by
  have hQ : Q e' = false := by
   cases q : Q e' with
   | false => rfl
   | true => simp [q] at hY
  simp only [hQ, Bool.or_false, decide_eq_true_eq] at hE
  have hG : G e' = false := by
   cases g : G e' with
   | false => rfl
   | true =>
    exfalso
    have : Y e' = true := by simp only [Y, g, Bool.true_and, decide_eq_true_eq]; exact hE
    simp only [this, Bool.true_or] at hY; cases hY
  refine h.no e' he' hG (hp.sub (ins_sub fun i hi hq => ?_))
  simp only [Bool.false_or, Bool.and_eq_true, bef, Bool.or_eq_true, decide_eq_true_eq] at hq
  simp only [Y, Bool.or_eq_true, Bool.and_eq_true, decide_eq_true_eq]
  refine .inl ⟨hq.1, ?_⟩
  rcases hq.2 with hq | hq <;> omega
 have hsubE : ∀ i, i < n → (Y i || Q i) = true → (decide (((k + 1 : Nat) : Int) ≤ f i) || Q i) = true := fun i _ hi => by
  simp only [Y, Bool.or_eq_true, Bool.and_eq_true] at hi ⊢
  exact hi.imp (·.2) id
 have hsubX : ∀ i, i < n → (X i || Q i) = true → (decide (((k + 1 : Nat) : Int) ≤ f i) || Q i) = true := fun i _ hi => by
  simp only [X, Bool.or_eq_true, Bool.and_eq_true] at hi ⊢
  exact hi.imp (·.2) id
 obtain ⟨D, t1, t2⟩ := last_tight hYp
 have t3 := hm.same hYp hsubE hXp hsubX hcc t1 t2
 -- e was refused
 have hno := h.no e hen h2
 have hno' : ¬ Pos dy n (ins (fun i => Y i || Q i) e) := fun hp => hno (hp.sub (ins_sub fun i hi hq => by
  simp only [Bool.false_or, Bool.and_eq_true, bef, Bool.or_eq_true, decide_eq_true_eq] at hq
  simp only [Y, Q, Bool.or_eq_true, Bool.and_eq_true, decide_eq_true_eq]
  rcases hq.2 with hq2 | hq2
  ·exact .inl ⟨hq.1, by omega⟩
  ·exact .inr ⟨hq.1, hq2⟩))
 have hYe : (Y e || Q e) = false := by simp [Y, Q, h2]
 have hex : ∃ d, dy e ≤ d ∧ Tight dy n (fun i => Y i || Q i) d := Classical.byContradiction fun hn => hno' ((ins_pos hYp hen hYe).2 fun d hd ht => hn ⟨d, hd, ht⟩)
 obtain ⟨d, d1, d2⟩ := hex
 have d3 := t2 d d2
 have t4 := t3.up sS hdS
 have hde : del S e e = false := by simp [del]
 refine (ins_pos hdS hen hde).1 (hS.sub fun i _ hi => ?_) D (by omega) t4
 simp only [ins, del, Bool.or_eq_true, Bool.and_eq_true, Bool.not_eq_true', beq_eq_false_iff_ne, beq_iff_eq] at hi
 rcases hi with hi | hi
 ·exact hi.1
 ·rw [hi]; exact h1
theorem Gr.count {A G : Nat → Bool} (h : Gr dy f n A G) (c : Int) (hA : ∀ i, i < n → A i = false) : ∃ D, cnt (fun i => G i && decide (c ≤ f i)) n = D + aft dy n (fun i => decide (c ≤ f i)) D := by
 have e1 : ∀ i, i < n → (G i && (A i || decide (c ≤ f i))) = (G i && decide (c ≤ f i)) := fun i hi => by rw [hA i hi]; rfl
 have hp : Pos dy n (fun i => G i && (A i || decide (c ≤ f i))) := h.pos.sub fun i _ hi => by simp only [Bool.and_eq_true] at hi; exact hi.1
 obtain ⟨D, h1, h2⟩ := last_tight hp
 have h3 := (h.max c).aft hp (fun i _ hi => by simp only [Bool.and_eq_true] at hi; exact hi.2) h2
 have h4 := by_aft dy n (fun i => G i && (A i || decide (c ≤ f i))) D
 have h5 : cnt (fun i => G i && (A i || decide (c ≤ f i))) n = cnt (fun i => G i && decide (c ≤ f i)) n := cnt_congr e1
 have h6 : aft dy n (fun i => A i || decide (c ≤ f i)) D = aft dy n (fun i => decide (c ≤ f i)) D := cnt_congr fun i hi => by simp [hA i hi]
 refine ⟨D, ?_⟩
 unfold Tight at h1; omega
end

end Go.Proofs.YtjcnfpfldocpdaaGreatDoor

namespace Go.Proofs.YtjcnfpfldocpdaaGreatDoor

def qput (f : Nat → Int) (i : Nat) : List Nat → List Nat
 | [] => [i]
 | j :: r => if f j < f i then i :: j :: r else j :: qput f i r
def qday (dy : Nat → Nat) (f : Nat → Int) (n t : Nat) (Q : List Nat) : List Nat := (List.range n).foldl (fun q i => if dy i = t then qput f i q else q) Q
def run (dy : Nat → Nat) (f : Nat → Int) (n : Nat) : Nat → List Nat → Int
 | 0, _ => 0
 | t + 1, Q => match qday dy f n (t + 1) Q with
  | [] => run dy f n t []
  | i :: r => f i + run dy f n t r
theorem qput_mem {f : Nat → Int} {i : Nat} : ∀ {Q : List Nat} {x : Nat}, x ∈ qput f i Q ↔ x = i ∨ x ∈ Q
 | [], x => by simp [qput]
 | j :: r, x => by
  unfold qput
  split
  ·simp
  ·simp only [List.mem_cons, qput_mem (Q := r)]
   constructor
   ·rintro (h | h | h)
    ·exact .inr (.inl h)
    ·exact .inl h
    ·exact .inr (.inr h)
   ·rintro (h | h | h)
    ·exact .inr (.inl h)
    ·exact .inl h
    ·exact .inr (.inr h)
theorem qput_sorted {f : Nat → Int} {i : Nat} : ∀ {Q : List Nat}, Q.Pairwise (fun a b => f b ≤ f a) → (qput f i Q).Pairwise (fun a b => f b ≤ f a)
 | [], _ => by simp [qput]
 | j :: r, h => by
  obtain ⟨h1, h2⟩ := List.pairwise_cons.1 h
  unfold qput
  split
  ·rename_i hlt
   refine List.pairwise_cons.2 ⟨fun x hx => ?_, h⟩
   rcases List.mem_cons.1 hx with rfl | hx
   ·omega
   ·have := h1 x hx; omega
  ·rename_i hlt
   refine List.pairwise_cons.2 ⟨fun x hx => ?_, qput_sorted h2⟩
   rcases qput_mem.1 hx with rfl | hx
   ·omega
   ·exact h1 x hx
theorem qput_nodup {f : Nat → Int} {i : Nat} : ∀ {Q : List Nat}, Q.Nodup → i ∉ Q → (qput f i Q).Nodup
 | [], _, _ => by simp [qput]
 | j :: r, h, hi => by
  obtain ⟨h1, h2⟩ := List.nodup_cons.1 h
  unfold qput
  split
  ·exact List.nodup_cons.2 ⟨hi, h⟩
  ·refine List.nodup_cons.2 ⟨fun hx => ?_, qput_nodup h2 fun hx => hi (List.mem_cons_of_mem _ hx)⟩
   rcases qput_mem.1 hx with rfl | hx
   ·exact hi (by simp)
   ·exact h1 hx
section
variable {dy : Nat → Nat} {f : Nat → Int} {n : Nat}

theorem qfold_ok {t : Nat} : ∀ (L : List Nat) (Q : List Nat), L.Nodup → Q.Nodup → Q.Pairwise (fun a b => f b ≤ f a) → (∀ i ∈ L, dy i = t → i ∉ Q) →
  (L.foldl (fun q i => if dy i = t then qput f i q else q) Q).Nodup ∧ (L.foldl (fun q i => if dy i = t then qput f i q else q) Q).Pairwise (fun a b => f b ≤ f a) ∧ ∀ x, x ∈ L.foldl (fun q i => if dy i = t then qput f i q else q) Q ↔ x ∈ Q ∨ (x ∈ L ∧ dy x = t)
 | [], Q, _, h1, h2, _ => ⟨h1, h2, fun x => by simp⟩
 | i :: L, Q, hL, h1, h2, h3 => by
  obtain ⟨hi, hL'⟩ := List.nodup_cons.1 hL
  simp only [List.foldl_cons]
  by_cases ht : dy i = t
  ·rw [if_pos ht]
   have hiQ := h3 i (by simp) ht
   obtain ⟨a, b, c⟩ := qfold_ok L (qput f i Q) hL' (qput_nodup h1 hiQ) (qput_sorted h2) (fun j hj hjt hm => by
    rcases qput_mem.1 hm with rfl | hm
    ·exact hi hj
    ·exact h3 j (List.mem_cons_of_mem _ hj) hjt hm)
   refine ⟨a, b, fun x => ?_⟩
   rw [c x, qput_mem]
   constructor
   ·rintro ((rfl | h) | ⟨h, h'⟩)
    ·exact .inr ⟨by simp, ht⟩
    ·exact .inl h
    ·exact .inr ⟨List.mem_cons_of_mem _ h, h'⟩
   ·rintro (h | ⟨h, h'⟩)
    ·exact .inl (.inr h)
    ·rcases List.mem_cons.1 h with rfl | h
     ·exact .inl (.inl rfl)
     ·exact .inr ⟨h, h'⟩
  ·rw [if_neg ht]
   obtain ⟨a, b, c⟩ := qfold_ok L Q hL' h1 h2 (fun j hj => h3 j (List.mem_cons_of_mem _ hj))
   refine ⟨a, b, fun x => ?_⟩
   rw [c x]
   constructor
   ·rintro (h | ⟨h, h'⟩)
    ·exact .inl h
    ·exact .inr ⟨List.mem_cons_of_mem _ h, h'⟩
   ·rintro (h | ⟨h, h'⟩)
    ·exact .inl h
    ·rcases List.mem_cons.1 h with rfl | h
     ·exact absurd h' ht
     ·exact .inr ⟨h, h'⟩
structure Fit (dy : Nat → Nat) (n t : Nat) (Q : List Nat) (T : Nat → Bool) : Prop where
 mem : ∀ i, i < n → T i = true → i ∈ Q ∨ dy i ≤ t
 day : ∀ d, d < t → by_ dy n T d ≤ d
 all : cnt T n ≤ t
structure Wt (dy : Nat → Nat) (f : Nat → Int) (n t : Nat) (Q : List Nat) : Prop where
 nd : Q.Nodup
 srt : Q.Pairwise (fun a b => f b ≤ f a)
 mem : ∀ i ∈ Q, i < n ∧ t < dy i
theorem qday_ok {t : Nat} {Q : List Nat} (h : Wt dy f n (t + 1) Q) : Wt dy f n t (qday dy f n (t + 1) Q) ∧ ∀ x, x ∈ qday dy f n (t + 1) Q ↔ x ∈ Q ∨ (x < n ∧ dy x = t + 1) := by
 obtain ⟨a, b, c⟩ := qfold_ok (dy := dy) (f := f) (t := t + 1) (List.range n) Q List.nodup_range h.nd h.srt (fun i hi ht hq => by have := (h.mem i hq).2; omega)
 refine ⟨⟨a, b, fun i hi => ?_⟩, fun x => by have := c x; rw [List.mem_range] at this; exact this⟩
 rcases (c i).1 hi with h' | ⟨h', h''⟩
 ·have := h.mem i h'; exact ⟨this.1, by omega⟩
 ·exact ⟨List.mem_range.1 h', by omega⟩
theorem ws_le {T : Nat → Bool} {i x : Nat} (hx : x < n) (hT : T x = true) (h : f x ≤ f i) : ws f T n ≤ f i + ws f (del T x) n := by
 have := ws_del f hx hT; omega
theorem by_del_le {T : Nat → Bool} (x d : Nat) : by_ dy n (del T x) d ≤ by_ dy n T d := by_le dy n (fun i _ hi => by simp only [del, Bool.and_eq_true] at hi; exact hi.1) d
theorem cnt_del1 {T : Nat → Bool} {x : Nat} (hx : x < n) (hT : T x = true) : cnt (del T x) n + 1 = cnt T n := by
 have := cnt_del hx hT (fun _ => true)
 simpa using this
theorem cnt_ins1 {T : Nat → Bool} {x : Nat} (hx : x < n) (hT : T x = false) : cnt (ins T x) n = cnt T n + 1 := by
 have := cnt_ins hx hT (fun _ => true)
 simpa using this
theorem run_max (hf : ∀ i, i < n → 0 ≤ f i) : ∀ (t : Nat) (Q : List Nat) (T : Nat → Bool), Wt dy f n t Q → Fit dy n t Q T → ws f T n ≤ run dy f n t Q
 | 0, Q, T, hQ, hT => by
  have h0 : cnt T n = 0 := by have := hT.all; omega
  have hno : ∀ i, i < n → T i = false := fun i hi => by
   cases h : T i with
   | false => rfl
   | true =>
    exfalso
    have h1 := cnt_one T i n
    rw [if_pos ⟨hi, h⟩] at h1
    have h2 := cnt_le (p := fun j => T j && j == i) (q := T) (n := n) fun j _ hj => by simp only [Bool.and_eq_true] at hj; exact hj.1
    omega
  have : ws f T n = ws f (fun _ => false) n := ws_congr hno (fun i hi h => rfl)
  rw [this]
  have : ∀ m, ws f (fun _ => false) m = 0 := fun m => by
   induction m with
   | zero => rfl
   | succ m ih => simp only [ws, ih, cond_false]; rfl
  rw [this n]; exact Int.le_refl 0
 | t + 1, Q, T, hQ, hT => by
  obtain ⟨w1, w2⟩ := qday_ok hQ
  simp only [run]
  cases hq : qday dy f n (t + 1) Q with
  | nil =>
   simp only
   rw [hq] at w1 w2
   have hm : ∀ i, i < n → T i = true → dy i ≤ t := fun i hi hTi => by
    have h1 : ¬ (i ∈ Q ∨ (i < n ∧ dy i = t + 1)) := fun h => by have := (w2 i).2 h; simp at this
    rcases hT.mem i hi hTi with h | h
    ·exact absurd (.inl h) h1
    ·have : dy i ≠ t + 1 := fun e => h1 (.inr ⟨hi, e⟩)
     omega
   refine run_max hf t [] T ⟨.nil, .nil, fun i hi => by simp at hi⟩ ⟨fun i hi h => .inr (hm i hi h), fun d hd => hT.day d (by omega), ?_⟩
   have h1 := hT.day t (by omega)
   have h2 : by_ dy n T t = cnt T n := cnt_congr fun i hi => by
    cases h : T i with
    | false => rfl
    | true => simp [hm i hi h]
   omega
  | cons i r =>
   simp only
   rw [hq] at w1 w2
   have hi : i < n ∧ t < dy i := w1.mem i (by simp)
   obtain ⟨nd1, nd2⟩ := List.nodup_cons.1 w1.nd
   obtain ⟨s1, s2⟩ := List.pairwise_cons.1 w1.srt
   have hr : Wt dy f n t r := ⟨nd2, s2, fun j hj => w1.mem j (List.mem_cons_of_mem _ hj)⟩
   -- one is taken out
   have take : ∀ x, x < n → T x = true → f x ≤ f i → (∀ j, j < n → del T x j = true → j ∈ r ∨ dy j ≤ t) → ws f T n ≤ f i + run dy f n t r := fun x hx hTx hfx hm => by
    have h1 := ws_le hx hTx hfx
    have h2 := cnt_del1 hx hTx
    have h3 := hT.all
    have h4 := run_max hf t r (del T x) hr ⟨hm, fun d hd => Nat.le_trans (by_del_le x d) (hT.day d (by omega)), by omega⟩
    omega
   have inQ : ∀ j, j < n → T j = true → t < dy j → j = i ∨ j ∈ r := fun j hj hTj hd => by
    have : j ∈ i :: r := (w2 j).2 (by
     rcases hT.mem j hj hTj with h | h
     ·exact .inl h
     ·exact .inr ⟨hj, by omega⟩)
    simpa using this
   by_cases hTi : T i = true
   ·exact take i hi.1 hTi (Int.le_refl _) fun j hj hdj => by
     simp only [del, Bool.and_eq_true, Bool.not_eq_true', beq_eq_false_iff_ne] at hdj
     by_cases hd : dy j ≤ t
     ·exact .inr hd
     ·rcases inQ j hj hdj.1 (by omega) with h | h
      ·exact absurd h hdj.2
      ·exact .inl h
   ·by_cases hex : ∃ x, x < n ∧ T x = true ∧ t < dy x
    ·obtain ⟨x, hx, hTx, hdx⟩ := hex
     have hxr : x ∈ r := by
      rcases inQ x hx hTx hdx with rfl | h
      ·exact absurd hTx hTi
      ·exact h
     exact take x hx hTx (s1 x hxr) fun j hj hdj => by
      simp only [del, Bool.and_eq_true, Bool.not_eq_true', beq_eq_false_iff_ne] at hdj
      by_cases hd : dy j ≤ t
      ·exact .inr hd
      ·rcases inQ j hj hdj.1 (by omega) with rfl | h
       ·exact absurd hdj.1 hTi
       ·exact .inl h
    ·have hm : ∀ j, j < n → T j = true → dy j ≤ t := fun j hj hTj => Nat.le_of_not_lt fun h => hex ⟨j, hj, hTj, h⟩
     have h1 := hT.day t (by omega)
     have h2 : by_ dy n T t = cnt T n := cnt_congr fun j hj => by
      cases h : T j with
      | false => rfl
      | true => simp [hm j hj h]
     have h4 := run_max hf t r T hr ⟨fun j hj h => .inr (hm j hj h), fun d hd => hT.day d (by omega), by omega⟩
     have := hf i hi.1
     omega
theorem run_ex : ∀ (t : Nat) (Q : List Nat), Wt dy f n t Q → ∃ T, Fit dy n t Q T ∧ ws f T n = run dy f n t Q
 | 0, Q, hQ => by
  refine ⟨fun _ => false, ⟨fun i _ h => (by cases h), fun d hd => by omega, ?_⟩, ?_⟩
  ·rw [cnt_zero fun i _ => rfl]; exact Nat.le_refl _
  ·simp only [run]
   have : ∀ m, ws f (fun _ => false) m = 0 := fun m => by
    induction m with
    | zero => rfl
    | succ m ih => simp only [ws, ih, cond_false]; rfl
   exact this n
 | t + 1, Q, hQ => by
  obtain ⟨w1, w2⟩ := qday_ok hQ
  simp only [run]
  cases hq : qday dy f n (t + 1) Q with
  | nil =>
   simp only
   obtain ⟨T, h1, h2⟩ := run_ex t [] ⟨.nil, .nil, fun i hi => by simp at hi⟩
   have hm : ∀ i, i < n → T i = true → dy i ≤ t := fun i hi h => (h1.mem i hi h).resolve_left (by simp)
   refine ⟨T, ⟨fun i hi h => .inr (by have := hm i hi h; omega), fun d hd => ?_, by have := h1.all; omega⟩, h2⟩
   by_cases hd' : d < t
   ·exact h1.day d hd'
   ·obtain rfl : d = t := by omega
    have : by_ dy n T d ≤ cnt T n := cnt_le fun i _ hi => by simp only [Bool.and_eq_true] at hi; exact hi.1
    have := h1.all; omega
  | cons i r =>
   simp only
   rw [hq] at w1 w2
   have hi : i < n ∧ t < dy i := w1.mem i (by simp)
   obtain ⟨nd1, nd2⟩ := List.nodup_cons.1 w1.nd
   obtain ⟨s1, s2⟩ := List.pairwise_cons.1 w1.srt
   obtain ⟨T, h1, h2⟩ := run_ex t r ⟨nd2, s2, fun j hj => w1.mem j (List.mem_cons_of_mem _ hj)⟩
   have hTi : T i = false := by
    cases h : T i with
    | false => rfl
    | true =>
     exfalso
     rcases h1.mem i hi.1 h with h' | h'
     ·exact nd1 h'
     ·omega
   refine ⟨ins T i, ⟨fun j hj h => ?_, fun d hd => ?_, by rw [cnt_ins1 hi.1 hTi]; have := h1.all; omega⟩, by rw [ws_ins f hi.1 hTi, h2]; omega⟩
   ·simp only [ins, Bool.or_eq_true, beq_iff_eq] at h
    have hin : ∀ x, x ∈ i :: r → x ∈ Q ∨ dy x ≤ t + 1 := fun x hx => ((w2 x).1 hx).imp id fun h => by omega
    rcases h with h | rfl
    ·rcases h1.mem j hj h with h' | h'
     ·exact hin j (List.mem_cons_of_mem _ h')
     ·exact .inr (by omega)
    ·exact hin j (by simp)
   ·rw [by_ins hi.1 hTi, if_neg (by omega), Nat.add_zero]
    by_cases hd' : d < t
    ·exact h1.day d hd'
    ·obtain rfl : d = t := by omega
     have : by_ dy n T d ≤ cnt T n := cnt_le fun i _ hi => by simp only [Bool.and_eq_true] at hi; exact hi.1
     have := h1.all; omega
theorem run_opt (hf : ∀ i, i < n → 0 ≤ f i) {L : Nat} (hL : ∀ i, i < n → dy i ≤ L) : (∀ T, Pos dy n T → ws f T n ≤ run dy f n L []) ∧ ∃ T, Pos dy n T ∧ ws f T n = run dy f n L [] := by
 have hw : Wt dy f n L [] := ⟨.nil, .nil, fun i hi => by simp at hi⟩
 refine ⟨fun T hT => run_max hf L [] T hw ⟨fun i hi _ => .inr (hL i hi), fun d _ => hT d, ?_⟩, ?_⟩
 ·have h1 := hT L
  have h2 : by_ dy n T L = cnt T n := cnt_congr fun i hi => by simp [hL i hi]
  omega
 ·obtain ⟨T, h1, h2⟩ := run_ex L [] hw
  refine ⟨T, fun d => ?_, h2⟩
  by_cases hd : d < L
  ·exact h1.day d hd
  ·have h3 : by_ dy n T d ≤ cnt T n := cnt_le fun i _ hi => by simp only [Bool.and_eq_true] at hi; exact hi.1
   have := h1.all; omega
end

end Go.Proofs.YtjcnfpfldocpdaaGreatDoor

namespace Go.Proofs.YtjcnfpfldocpdaaGreatDoor
open Go.RowKit
set_option linter.unusedVariables false

end Go.Proofs.YtjcnfpfldocpdaaGreatDoor

namespace Go.Proofs.YtjcnfpfldocpdaaGreatDoor
open Go.RowKit
set_option linter.unusedVariables false

abbrev Od := Int × Int × Unit
abbrev d3 : Od := (0, (0, ()))
def B34 (lo n hi : Int) : Option Bool := some (decide (lo ≤ n ∧ n ≤ hi))
theorem KB34 : FnOk Tryz.prog 34 (F34 B34) := ok34 B34 fun lo n hi r h => ⟨0, by
 rw [← h]; simp only [m34, B34]
 by_cases a : lo ≤ n <;> simp [a]⟩
def fx {α : Type} (p : α → Bool) : Int → List α → Int
 | _, [] => -1
 | t, x :: xs => cond (p x) t (fx p (t + 1) xs)
theorem fx_ge {α : Type} (p : α → Bool) : ∀ (xs : List α) (t : Int), 0 ≤ t → decide (fx p t xs ≥ 0) = xs.any p
 | [], t, h => rfl
 | x :: xs, t, h => by
  rw [fx, List.any_cons]
  cases e : p x with
  | true => simp [h]
  | false => rw [cond_false, fx_ge p xs (t + 1) (by omega)]; simp
def badO (o : Od) : Bool := !(decide (1 ≤ o.1 ∧ o.1 ≤ 30)) || !(decide (0 ≤ o.2.1 ∧ o.2.1 ≤ 10000))
def B62 (o : Od) : Option Bool := some (badO o)
theorem KB62 : FnOk Tryz.prog 62 (F62 B62) := ok62 B34 KB34 B62 fun o r h => ⟨0, by
 rw [← h]; simp only [m62, B62, B34, Option.bind_some, badO]
 cases decide (1 ≤ o.1 ∧ o.1 ≤ 30) <;> rfl⟩
def B39c62 (l : List Od) : Option Int := if l.length ≤ 1000 then some (fx badO 0 l) else none
theorem KB39c62 : FnOk Tryz.prog 39 (F39c62 B39c62) := ok39c62 B62 KB62 B39c62 fun s r h => ⟨1001, by
 simp only [B39c62] at h
 split at h
 ·rename_i hl
  rw [← h, m39c62]
  exact rangeIx s d3 (fun n (_ : Unit) t => l39c62a B62 1001 s n t) (fun _ _ _ => True) (fun t xs _ => some (fx badO t xs))
   (fun n _ t x rest ht hx _ ih => by
    simp only [l39c62a, ixA ht, ixB ht, cond_true, chk_true, Int.toNat_natCast, ixW ht (by omega), hx, ih () trivial, fx, B62, Option.bind_some]
    cases badO x <;> rfl)
   (fun n _ _ => by simp only [l39c62a, ixE, cond_false]; rfl) 1001 () (by omega) trivial
 ·cases h⟩
def B61c62 (l : List Od) : Option Bool := if l.length ≤ 1000 then some (l.any badO) else none
theorem KB61c62 : FnOk Tryz.prog 61 (F61c62 B61c62) := ok61c62 B39c62 KB39c62 B61c62 fun s r h => ⟨0, by
 simp only [B61c62] at h
 split at h
 ·rename_i hl
  rw [← h, m61c62, B39c62, if_pos hl, Option.bind_some, fx_ge _ s 0 (by omega)]
 ·cases h⟩
def ckO (l : List Od) : Int := cond (decide (l.length = 0)) 1 (cond (decide (12 < l.length)) 2 (cond (l.any badO) 4 0))
def B33 (l : List Od) : Option Int := if l.length ≤ 1000 then some (ckO l) else none
theorem KB33 : FnOk Tryz.prog 33 (F33 B33) := ok33 B61c62 KB61c62 B33 fun l r h => ⟨0, by
 simp only [B33] at h
 split at h
 ·rename_i hl
  rw [← h, m33, B61c62, if_pos hl, Option.bind_some, ckO]
  have e1 : (((l.length : Int)) == 0) = decide (l.length = 0) := by
   by_cases q : l.length = 0
   ·simp [q]
   ·have : ((l.length : Int) == 0) = false := by simp; intro e; exact q (by simp [e])
    rw [this]; simp [q]
  have e2 : decide ((l.length : Int) > 12) = decide (12 < l.length) := by
   by_cases q : 12 < l.length
   ·rw [decide_eq_true q]; exact decide_eq_true (by omega)
   ·rw [decide_eq_false q]; exact decide_eq_false (by omega)
  rw [e1, e2]
  cases decide (l.length = 0) <;> cases decide (12 < l.length) <;> cases l.any badO <;> rfl
 ·cases h⟩
structure OkO (l : List Od) : Prop where
 pos : 0 < l.length
 len : l.length ≤ 12
 all : ∀ o ∈ l, (1 ≤ o.1 ∧ o.1 ≤ 30) ∧ 0 ≤ o.2.1 ∧ o.2.1 ≤ 10000
theorem ckO_ok {l : List Od} (h : ckO l = 0) : OkO l := by
 unfold ckO at h
 cases e1 : decide (l.length = 0) with
 | true => rw [e1] at h; cases h
 | false =>
  cases e2 : decide (12 < l.length) with
  | true => rw [e1, e2] at h; cases h
  | false =>
   cases e3 : l.any badO with
   | true => rw [e1, e2, e3] at h; cases h
   | false =>
    have e1 := of_decide_eq_false e1
    have e2 := of_decide_eq_false e2
    refine ⟨by omega, by omega, fun o ho => ?_⟩
    have := List.any_eq_false.1 e3 o ho
    simp only [badO, Bool.or_eq_true, Bool.not_eq_true', decide_eq_false_iff_not, not_or, Classical.not_not] at this
    exact ⟨this.1, this.2.1, this.2.2⟩
end Go.Proofs.YtjcnfpfldocpdaaGreatDoor

namespace Go.Proofs.YtjcnfpfldocpdaaGreatDoor
open Go.RowKit
set_option linter.unusedVariables false

def dyl (l : List Od) (i : Nat) : Nat := (l.getD i d3).1.toNat
def fnl (l : List Od) (i : Nat) : Int := (l.getD i d3).2.1
def mem (s : List Int) (i : Nat) : Bool := s.contains (i : Int)
structure Ix (n : Nat) (s : List Int) : Prop where
 rng : ∀ i ∈ s, 0 ≤ i ∧ i < n
 nd : s.Nodup
theorem mem_cons (x : Nat) (s : List Int) (i : Nat) : mem ((x : Int) :: s) i = ins (mem s) x i := by
 simp only [mem, ins, List.contains_cons]
 by_cases h : i = x
 ·subst h; simp
 ·have h1 : ((i : Int) == (x : Int)) = false := by simp; omega
  have h2 : (i == x) = false := by simpa using h
  rw [h1, h2, Bool.false_or, Bool.or_false]
theorem cnt_mem {n : Nat} (r : Nat → Bool) : ∀ {s : List Int}, Ix n s → (s.filter fun i => r i.toNat).length = cnt (fun i => mem s i && r i) n
 | [], _ => by
  rw [cnt_zero fun i _ => by simp [mem]]; rfl
 | x :: s, h => by
  obtain ⟨h1, h2⟩ := List.nodup_cons.1 h.nd
  have hx := h.rng x (by simp)
  obtain ⟨k, rfl⟩ : ∃ k : Nat, x = k := ⟨x.toNat, by omega⟩
  have ih := cnt_mem r (s := s) ⟨fun i hi => h.rng i (List.mem_cons_of_mem _ hi), h2⟩
  have hk : k < n := by omega
  have hm : mem s k = false := by
   cases q : mem s k with
   | false => rfl
   | true => exact absurd (List.contains_iff_mem.1 q) h1
  rw [cnt_congr (q := fun i => ins (mem s) k i && r i) fun i _ => by rw [mem_cons], cnt_ins hk hm, ← ih, List.filter_cons]
  simp only [Int.toNat_natCast]
  by_cases hr : r k = true
  ·simp [hr]
  ·have hr : r k = false := by simpa using hr
   simp [hr]
theorem cnt_len {n : Nat} {s : List Int} (h : Ix n s) : s.length = cnt (mem s) n := by
 have h1 := cnt_mem (fun _ => true) h
 rw [List.filter_eq_self.2 fun _ _ => rfl] at h1
 rw [h1]; exact cnt_congr fun i _ => Bool.and_true _
def fo : Nat → List Int → Int
 | _, [] => 0
 | k, d :: r => cond (decide (((k + 1 : Nat) : Int) > d)) d (fo (k + 1) r)
def cle (L : List Int) (d : Int) : Nat := (L.filter fun x => decide (x ≤ d)).length
theorem cle_cons (x : Int) (L : List Int) (d : Int) : cle (x :: L) d = (if x ≤ d then 1 else 0) + cle L d := by
 unfold cle
 by_cases h : x ≤ d
 ·simp [h]; omega
 ·simp [h]
theorem cle_pos {L : List Int} {d : Int} (h : 0 < cle L d) : ∃ x ∈ L, x ≤ d := by
 unfold cle at h
 obtain ⟨x, hx⟩ := List.exists_mem_of_length_pos h
 simp only [List.mem_filter, decide_eq_true_eq] at hx
 exact ⟨x, hx.1, hx.2⟩
theorem fo_zero : ∀ (L : List Int) (k : Nat), L.Pairwise (fun a b => decide (a ≤ b) = true) → (∀ x ∈ L, 1 ≤ x) → fo k L = 0 → ∀ d, 0 < cle L d → ((k + cle L d : Nat) : Int) ≤ d
 | [], k, _, _, _, d, h => by simp [cle] at h
 | x :: r, k, hs, h1, h0, d, h => by
  obtain ⟨s1, s2⟩ := List.pairwise_cons.1 hs
  have hx := h1 x (by simp)
  have hk : ¬ (((k + 1 : Nat) : Int) > x) := fun q => by
   rw [fo, decide_eq_true q, cond_true] at h0; omega
  rw [fo, decide_eq_false hk, cond_false] at h0
  have ih := fo_zero r (k + 1) s2 (fun y hy => h1 y (List.mem_cons_of_mem _ hy)) h0 d
  have hxd : x ≤ d := by
   obtain ⟨y, hy, hyd⟩ := cle_pos h
   rcases List.mem_cons.1 hy with rfl | hy
   ·exact hyd
   ·have := of_decide_eq_true (s1 y hy); omega
  rw [cle_cons, if_pos hxd]
  by_cases hc : 0 < cle r d
  ·have := ih hc; omega
  ·omega
theorem fo_pos : ∀ (L : List Int) (k : Nat) (v : Int), L.Pairwise (fun a b => decide (a ≤ b) = true) → (∀ x ∈ L, 1 ≤ x) → fo k L = v → v ≠ 0 → v ∈ L ∧ v < ((k + cle L v : Nat) : Int) ∧ ∀ d, d < v → 0 < cle L d → ((k + cle L d : Nat) : Int) ≤ d
 | [], k, v, _, _, h, h0 => absurd h.symm h0
 | x :: r, k, v, hs, h1, h, h0 => by
  obtain ⟨s1, s2⟩ := List.pairwise_cons.1 hs
  by_cases hk : ((k + 1 : Nat) : Int) > x
  ·rw [fo, decide_eq_true hk, cond_true] at h
   subst h
   refine ⟨by simp, ?_, fun d hd hc => ?_⟩
   ·rw [cle_cons, if_pos (Int.le_refl _)]; omega
   ·obtain ⟨y, hy, hyd⟩ := cle_pos hc
    exfalso
    rcases List.mem_cons.1 hy with rfl | hy
    ·omega
    ·have := of_decide_eq_true (s1 y hy); omega
  ·rw [fo, decide_eq_false hk, cond_false] at h
   obtain ⟨a, b, c⟩ := fo_pos r (k + 1) v s2 (fun y hy => h1 y (List.mem_cons_of_mem _ hy)) h h0
   have hxv : x ≤ v := of_decide_eq_true (s1 v a)
   refine ⟨List.mem_cons_of_mem _ a, ?_, fun d hd hc => ?_⟩
   ·rw [cle_cons, if_pos hxv]; omega
   ·rw [cle_cons] at hc ⊢
    by_cases hxd : x ≤ d
    ·rw [if_pos hxd] at hc ⊢
     by_cases hc2 : 0 < cle r d
     ·have := c d hd hc2; omega
     ·omega
    ·rw [if_neg hxd] at hc ⊢
     have := c d hd (by omega); omega
theorem cle_srt (L : List Int) (d : Int) : cle (srt L) d = cle L d := ((srt_perm L).filter _).length_eq
def FO (dy : Nat → Nat) (n : Nat) (S : Nat → Bool) (v : Int) : Prop := (v = 0 ∧ Pos dy n S) ∨ ∃ d : Nat, v = d ∧ 1 ≤ d ∧ d < by_ dy n S d ∧ ∀ d', d' < d → by_ dy n S d' ≤ d'
theorem FO.zero {dy : Nat → Nat} {n : Nat} {S : Nat → Bool} {v : Int} (h : FO dy n S v) : v = 0 ↔ Pos dy n S := by
 rcases h with ⟨h1, h2⟩ | ⟨d, h1, h2, h3, h4⟩
 ·exact ⟨fun _ => h2, fun _ => h1⟩
 ·exact ⟨fun h => by omega, fun h => by have := h d; omega⟩
theorem FO.congr {dy : Nat → Nat} {n : Nat} {S T : Nat → Bool} {v : Int} (h : FO dy n S v) (hst : ∀ i, i < n → S i = T i) : FO dy n T v := by
 have e : ∀ d, by_ dy n T d = by_ dy n S d := fun d => cnt_congr fun i hi => by rw [hst i hi]
 rcases h with ⟨h1, h2⟩ | ⟨d, h1, h2, h3, h4⟩
 ·exact .inl ⟨h1, fun d => by rw [e]; exact h2 d⟩
 ·exact .inr ⟨d, h1, h2, by rw [e]; exact h3, fun d' hd => by rw [e]; exact h4 d' hd⟩
def daysOf (l : List Od) (s : List Int) : List Int := s.map fun i => (l.getD i.toNat d3).1
theorem cle_days {l : List Od} (h1 : ∀ o ∈ l, 1 ≤ o.1) {s : List Int} (hs : Ix l.length s) (d : Nat) : cle (daysOf l s) d = by_ (dyl l) l.length (mem s) d := by
 unfold by_
 rw [← cnt_mem _ hs]
 unfold cle daysOf
 rw [List.filter_map, List.length_map]
 congr 1
 apply List.filter_congr
 intro i hi
 have hr := hs.rng i hi
 have ho := h1 _ (List.getElem_mem (show i.toNat < l.length by omega))
 simp only [Function.comp, dyl, List.getD, List.getElem?_eq_getElem (show i.toNat < l.length by omega), Option.getD_some]
 congr 1
 exact propext ⟨fun h => by omega, fun h => by omega⟩
theorem fo_FO {l : List Od} (h1 : ∀ o ∈ l, 1 ≤ o.1) {s : List Int} (hs : Ix l.length s) : FO (dyl l) l.length (mem s) (fo 0 (srt (daysOf l s))) := by
 have hsrt := srt_sorted (daysOf l s)
 have hd1 : ∀ x ∈ srt (daysOf l s), 1 ≤ x := fun x hx => by
  have hx := (srt_perm _).mem_iff.1 hx
  obtain ⟨i, hi, rfl⟩ := List.mem_map.1 hx
  have hr := hs.rng i hi
  have ho := h1 _ (List.getElem_mem (show i.toNat < l.length by omega))
  simpa [List.getD, List.getElem?_eq_getElem (show i.toNat < l.length by omega)] using ho
 have hc : ∀ d : Nat, cle (srt (daysOf l s)) d = by_ (dyl l) l.length (mem s) d := fun d => by rw [cle_srt, cle_days h1 hs]
 by_cases h0 : fo 0 (srt (daysOf l s)) = 0
 ·refine .inl ⟨h0, fun d => ?_⟩
  by_cases hp : 0 < by_ (dyl l) l.length (mem s) d
  ·have := fo_zero _ 0 hsrt hd1 h0 d (by rw [hc]; exact hp)
   rw [hc] at this; omega
  ·omega
 ·obtain ⟨a, b, c⟩ := fo_pos _ 0 _ hsrt hd1 rfl h0
  have hv := hd1 _ a
  obtain ⟨d, hd⟩ : ∃ d : Nat, fo 0 (srt (daysOf l s)) = d := ⟨(fo 0 (srt (daysOf l s))).toNat, by omega⟩
  rw [hd] at b c hv
  refine .inr ⟨d, hd, by omega, by rw [hc] at b; omega, fun d' hd' => ?_⟩
  by_cases hp : 0 < by_ (dyl l) l.length (mem s) d'
  ·have := c d' (by omega) (by rw [hc]; exact hp)
   rw [hc] at this; omega
  ·omega
def B72 (l : List Od) (s : List Int) : Option Int :=
 if l.length ≤ 1000 ∧ s.length ≤ 1000 ∧ ∀ i ∈ s, 0 ≤ i ∧ i < (l.length : Int) then some (fo 0 (srt (daysOf l s))) else none
theorem mkOk_of {a b : Int} {k : Nat} (h0 : 0 ≤ a) (h1 : a ≤ b) (h2 : b * (k : Int) ≤ 140737488355328) (h3 : b ≤ 140737488355328) : mkOk a b k = true := by
 simp only [mkOk, Bool.and_eq_true, decide_eq_true_eq]
 refine ⟨?_, ?_⟩ <;> omega
theorem fo_loop (r1 : List Int) (hl : r1.length ≤ 1000) (N : Nat) (hN : 1001 ≤ N) : l72b A75 N r1 N 0 = some (fo 0 r1) :=
 rangeIx r1 0 (fun n (_ : Unit) t => l72b A75 N r1 n t) (fun _ _ _ => True) (fun t xs _ => some (fo t xs))
  (fun n _ t x rest ht hx _ ih => by
   simp only [l72b, ixA ht, ixB ht, cond_true, chk_true, Int.toNat_natCast, ixW ht (by omega), hx, ih () trivial, fo]
   cases decide (((t + 1 : Nat) : Int) > x) <;> rfl)
  (fun n _ _ => by simp only [l72b, ixE, cond_false]; rfl) N () (by omega) trivial
theorem KB72 : FnOk Tryz.prog 72 (F72 B72) := ok72 A75 ok75 B72 fun l s r h => ⟨1001, by
 simp only [B72] at h
 split at h
 ·rename_i hh
  obtain ⟨hl, hs, hr⟩ := hh
  rw [← h, m72, mkOk_of (by omega) (by omega) (by omega) (by omega), chk_true]
  have := rangeInv s 0 (fun n (days : List Int) t => l72a A75 1001 l s n t days) (fun xs days => days.length + xs.length ≤ 1000 ∧ ∀ i ∈ xs, 0 ≤ i ∧ i < (l.length : Int)) (fun xs days => some (fo 0 (srt (days ++ daysOf l xs))))
   (fun n days t x rest ht hx hI ih => by
    obtain ⟨h1, h2⟩ := hI
    simp only [List.length_cons] at h1
    have hxr := h2 x (by simp)
    have hsm : small (days.length + 1) 8 = true := small_of (by omega) (by decide)
    have hix : decide (0 ≤ x ∧ x < (l.length : Int)) = true := decide_eq_true hxr
    simp only [l72a, ixA ht, ixB ht, cond_true, chk_true, Int.toNat_natCast, ixW ht (by omega), hx, hsm, hix]
    rw [ih _ ⟨by simp; omega, fun i hi => h2 i (List.mem_cons_of_mem _ hi)⟩]
    simp [daysOf])
   (fun n days hI => by
    have h1 := hI.1
    simp only [List.length_nil, Nat.add_zero] at h1
    simp only [l72a, ixE, cond_false]
    rw [A75, if_pos (by omega), Option.bind_some, fo_loop _ (by rw [(srt_perm days).length_eq]; exact h1) 1001 (by omega)]
    simp [daysOf]) 1001 [] (by omega) ⟨by simpa using hs, hr⟩
  simpa using this
 ·cases h⟩
end Go.Proofs.YtjcnfpfldocpdaaGreatDoor

namespace Go.Proofs.YtjcnfpfldocpdaaGreatDoor
open Go.RowKit
set_option linter.unusedVariables false

def cmpI (x y : Int) : Int := cond (decide (x < y)) (-1) (cond (decide (x > y)) 1 0)
theorem cmpI_lt (x y : Int) : decide (cmpI x y < 0) = decide (x < y) := by
 unfold cmpI
 by_cases h : x < y
 ·simp [h]
 ·by_cases g : x > y <;> simp [h, g]
def B85 (x : Int) : Option Bool := some false
theorem KB85 : FnOk Tryz.prog 85 (F85 B85) := ok85 B85 fun x r h => ⟨0, by rw [← h]; simp [m85, B85]⟩
def B65 (x y : Int) : Option Int := some (cmpI x y)
theorem KB65 : FnOk Tryz.prog 65 (F65 B65) := ok65 B85 KB85 B65 fun x y r h => ⟨0, by
 rw [← h]; simp only [m65, B85, B65, Option.bind_some, cond_false, cmpI]
 cases decide (x < y) <;> cases decide (x > y) <;> rfl⟩
def B64 (a b : Od) : Option Int := some (cmpI a.2.1 b.2.1)
theorem KB64 : FnOk Tryz.prog 64 (F64 B64) := ok64 B65 KB65 B64 fun a b r h => ⟨0, by rw [← h]; rfl⟩
def inR (l : List Od) (i : Int) : Bool := decide (0 ≤ i ∧ i < (l.length : Int))
def B74 (a b : Int) (l : List Od) : Option (Int × List Od) := cond (inR l a && inR l b) (some (cmpI (l.getD b.toNat d3).2.1 (l.getD a.toNat d3).2.1, l)) none
theorem KB74 : FnOk Tryz.prog 74 (F74c B74) := ok74c B65 KB65 B74 fun a b l r h => ⟨0, by
 rw [← h]; unfold B74 at h ⊢
 cases e1 : inR l a with
 | false => rw [e1] at h; cases h
 | true =>
  cases e2 : inR l b with
  | false => rw [e1, e2] at h; cases h
  | true =>
   unfold inR at e1 e2
   simp only [m74c, e1, e2, chk_true, B65, Option.bind_some, Bool.and_true, cond_true]⟩
def insRev (lt : Int → Int → Bool) (x : Int) : List Int → List Int
 | [] => [x]
 | y :: r => cond (lt x y) (y :: insRev lt x r) (x :: y :: r)
def isortR (lt : Int → Int → Bool) (L : List Int) : List Int := (L.foldl (fun P x => insRev lt x P) []).reverse
theorem insRev_perm (lt : Int → Int → Bool) (x : Int) : ∀ P, (insRev lt x P).Perm (x :: P)
 | [] => .refl _
 | y :: r => by
  simp only [insRev]
  cases lt x y with
  | true => exact ((insRev_perm lt x r).cons y).trans (.swap x y r)
  | false => exact .refl _
theorem isort_fold_perm (lt : Int → Int → Bool) : ∀ (L P : List Int), (L.foldl (fun P x => insRev lt x P) P).Perm (L ++ P)
 | [], P => .refl _
 | x :: L, P => by
  simp only [List.foldl_cons, List.cons_append]
  refine (isort_fold_perm lt L _).trans ?_
  exact ((insRev_perm lt x P).append_left L).trans List.perm_middle
theorem isortR_perm (lt : Int → Int → Bool) (L : List Int) : (isortR lt L).Perm L := by
 unfold isortR
 exact (List.reverse_perm _).trans (by simpa using isort_fold_perm lt L [])
theorem getD_mid {α : Type} (A : List α) (x d : α) (C : List α) : (A ++ x :: C).getD A.length d = x := by simp [List.getD]
theorem getD_mid1 {α : Type} (A : List α) (x y d : α) (C : List α) : (A ++ x :: y :: C).getD (A.length + 1) d = y := by simp [List.getD]
theorem set_mid2 {α : Type} (A : List α) (x y : α) (C : List α) : (((A ++ x :: y :: C).set (A.length + 1) x).set A.length y) = A ++ y :: x :: C := by
 simp
structure CmpOk (cmp : Int → Int → List Od → Option (Int × List Od)) (lt : Int → Int → Bool) (l : List Od) : Prop where
 ok : ∀ a b, inR l a = true → inR l b = true → ∃ v, cmp a b l = some (v, l) ∧ decide (v < 0) = lt a b
theorem cmp78 (l : List Od) : CmpOk B74 (fun a b => decide ((l.getD b.toNat d3).2.1 < (l.getD a.toNat d3).2.1)) l := ⟨fun a b h1 h2 => ⟨_, by unfold B74; rw [h1, h2]; rfl, cmpI_lt _ _⟩⟩
def lt78 (l : List Od) (a b : Int) : Bool := decide ((l.getD b.toNat d3).2.1 < (l.getD a.toNat d3).2.1)
def B108 (lt : List Od → Int → Int → Bool) (a b : Int) (L : List Int) (l : List Od) : Option (List Int × List Od) :=
 if a = 0 ∧ b = (L.length : Int) ∧ L.length ≤ 1000 ∧ ∀ i ∈ L, inR l i = true then some (isortR (lt l) L, l) else none
theorem in78 {l : List Od} {N : Nat} {b i : Int} {rec : Int → List Int → List Od → Option (List Int × List Od)} {x : Int} (hx : inR l x = true) : ∀ (A Bs C : List Int) (n : Nat), (∀ y ∈ A, inR l y = true) → A.length < n → A.length + Bs.length + C.length ≤ 1000 →
  l108c74b B74 N 0 b i rec n (A.length : Int) (A.reverse ++ x :: (Bs.reverse ++ C)) l = rec (w64 (i + 1)) ((Bs ++ insRev (lt78 l) x A).reverse ++ C) l
 | [], Bs, C, n, _, hn, _ => by
  obtain ⟨m, rfl⟩ : ∃ m, n = m + 1 := ⟨n - 1, by omega⟩
  simp [l108c74b, insRev]
 | y :: A, Bs, C, n, hA, hn, hlen => by
  obtain ⟨m, rfl⟩ : ∃ m, n = m + 1 := ⟨n - 1, by omega⟩
  simp only [List.length_cons] at hn hlen
  have hy := hA y (by simp)
  have ih := in78 hx (N := N) (b := b) (i := i) (rec := rec) A (Bs ++ [y]) C m (fun z hz => hA z (List.mem_cons_of_mem _ hz)) (by omega) (by simp only [List.length_append, List.length_cons, List.length_nil]; omega)
  obtain ⟨v, hv1, hv2⟩ := (cmp78 l).ok x y hx hy
  have hL : (y :: A).reverse ++ x :: (Bs.reverse ++ C) = A.reverse ++ y :: x :: (Bs.reverse ++ C) := by simp
  have e0 : w64 (((A.length + 1 : Nat) : Int) - 1) = (A.length : Int) := by rw [w64_small (by omega)]; omega
  have hlen2 : (A.reverse ++ y :: x :: (Bs.reverse ++ C)).length = A.length + 2 + (Bs.length + C.length) := by simp; omega
  have g1 : (A.reverse ++ y :: x :: (Bs.reverse ++ C)).getD (A.length + 1) 0 = x := by have := getD_mid1 A.reverse y x 0 (Bs.reverse ++ C); rwa [List.length_reverse] at this
  have g0 : (A.reverse ++ y :: x :: (Bs.reverse ++ C)).getD A.length 0 = y := by have := getD_mid A.reverse y 0 (x :: (Bs.reverse ++ C)); rwa [List.length_reverse] at this
  have s2 : (((A.reverse ++ y :: x :: (Bs.reverse ++ C)).set (A.length + 1) y).set A.length x) = A.reverse ++ x :: y :: (Bs.reverse ++ C) := by have := set_mid2 A.reverse y x (Bs.reverse ++ C); rwa [List.length_reverse] at this
  have hgt : decide (((A.length + 1 : Nat) : Int) > 0) = true := decide_eq_true (by omega)
  rw [hL]
  simp only [List.length_cons, l108c74b, hgt, cond_true, e0, Int.toNat_natCast, g1, g0, ixB (show A.length + 1 < (A.reverse ++ y :: x :: (Bs.reverse ++ C)).length by omega), ixB (show A.length < (A.reverse ++ y :: x :: (Bs.reverse ++ C)).length by omega), chk_true, hv1, Option.bind_some, hv2, List.length_set, s2]
  show cond (lt78 l x y) _ _ = _
  have hq : insRev (lt78 l) x (y :: A) = cond (lt78 l x y) (y :: insRev (lt78 l) x A) (x :: y :: A) := rfl
  cases hc : lt78 l x y with
  | true =>
   rw [hq, hc, cond_true, cond_true]
   have : A.reverse ++ x :: y :: (Bs.reverse ++ C) = A.reverse ++ x :: ((Bs ++ [y]).reverse ++ C) := by simp
   rw [this, ih]; simp
  | false => rw [hq, hc, cond_false, cond_false]; simp
theorem out78 {l : List Od} {N : Nat} (hN : 1002 ≤ N) : ∀ (rest P : List Int) (n : Nat), (∀ y ∈ P, inR l y = true) → (∀ y ∈ rest, inR l y = true) → rest.length < n → P.length + rest.length ≤ 1000 →
  l108c74a B74 N 0 ((P.length + rest.length : Nat) : Int) n (P.length : Int) (P.reverse ++ rest) l = some ((rest.foldl (fun P x => insRev (lt78 l) x P) P).reverse, l)
 | [], P, n, _, _, hn, _ => by
  obtain ⟨m, rfl⟩ : ∃ m, n = m + 1 := ⟨n - 1, by omega⟩
  simp [l108c74a]
 | x :: rest, P, n, hP, hR, hn, hlen => by
  obtain ⟨m, rfl⟩ : ∃ m, n = m + 1 := ⟨n - 1, by omega⟩
  simp only [List.length_cons] at hn hlen ⊢
  have hlt : decide ((P.length : Int) < ((P.length + (rest.length + 1) : Nat) : Int)) = true := decide_eq_true (by omega)
  simp only [l108c74a, hlt, cond_true]
  have h1 := in78 (l := l) (N := N) (b := ((P.length + (rest.length + 1) : Nat) : Int)) (i := (P.length : Int)) (rec := fun y0 y1 y2 => l108c74a B74 N 0 ((P.length + (rest.length + 1) : Nat) : Int) m y0 y1 y2) (x := x) (hR x (by simp)) P [] rest N hP (by omega) (by simp; omega)
  simp only [List.reverse_nil, List.nil_append] at h1
  rw [h1, w64_succ (by omega)]
  have hpl : (insRev (lt78 l) x P).length = P.length + 1 := by rw [(insRev_perm _ x P).length_eq]; rfl
  have ih := out78 hN rest (insRev (lt78 l) x P) m (fun y hy => by
   rcases List.mem_cons.1 ((insRev_perm (lt78 l) x P).mem_iff.1 hy) with rfl | h
   ·exact hR _ (by simp)
   ·exact hP y h) (fun y hy => hR y (List.mem_cons_of_mem _ hy)) (by omega) (by omega)
  rw [hpl] at ih
  rw [show P.length + (rest.length + 1) = P.length + 1 + rest.length by omega]
  exact ih
theorem start0 (lt : List Od → Int → Int → Bool) (l : List Od) (x : Int) (r : List Int) : isortR (lt l) (x :: r) = (r.foldl (fun P x => insRev (lt l) x P) [x]).reverse := rfl
theorem KB108c74 : FnOk Tryz.prog 108 (F108c74 (B108 lt78)) := ok108c74 B74 KB74 (B108 lt78) fun a b L l r h => ⟨1002, by
 simp only [B108] at h
 split at h
 ·rename_i hh
  obtain ⟨rfl, rfl, hl, hr⟩ := hh
  rw [← h, m108c74]
  cases L with
  | nil => rfl
  | cons x rest =>
   have := out78 (l := l) (N := 1002) (by omega) rest [x] 1002 (fun y hy => by rcases List.mem_singleton.1 hy with rfl; exact hr _ (by simp)) (fun y hy => hr y (List.mem_cons_of_mem _ hy)) (by simp only [List.length_cons] at hl; omega) (by simp only [List.length_cons, List.length_nil] at hl ⊢; omega)
   rw [start0 lt78, ← this]
   have e : w64 (0 + 1) = ((([x] : List Int).length : Nat) : Int) := by rw [w64_small (by omega)]; rfl
   rw [e]
   congr 1
   simp; omega
 ·cases h⟩
def B73 (lt : List Od → Int → Int → Bool) (L : List Int) (l : List Od) : Option (List Int × List Od) :=
 if L.length < 20 ∧ ∀ i ∈ L, inR l i = true then some (isortR (lt l) L, l) else none
def B93 (lt : List Od → Int → Int → Bool) (n : Int) (L : List Int) (l : List Od) : Option (List Int × List Od) :=
 if n = (L.length : Int) then B73 lt L l else none
theorem KB93c74 : FnOk Tryz.prog 93 (F93c74 (B93 lt78)) := ok93c74 (B108 lt78) A109c74 KB108c74 K109c74 (B93 lt78) fun n L l r h => ⟨1, by
 simp only [B93] at h
 split at h
 ·rename_i hn
  subst hn
  simp only [B73] at h
  split at h
  ·rename_i hh
   have h1 : decide ((20 : Int) ≤ (L.length : Int)) = false := decide_eq_false (by omega)
   have h2 : decide ((20 : Int) < (L.length : Int)) = false := decide_eq_false (by omega)
   have h3 : B108 lt78 0 (L.length : Int) L l = some (isortR (lt78 l) L, l) := if_pos ⟨rfl, rfl, by omega, hh.2⟩
   simp only [m93c74, l93c74a, h1, cond_false, h3, Option.bind_some, l93c74b, h2]
   exact h
  ·cases h
 ·cases h⟩
theorem KB73c74 : FnOk Tryz.prog 73 (F73c74 (B73 lt78)) := ok73c74 (B93 lt78) KB93c74 (B73 lt78) fun L l r h => ⟨0, by
 rw [m73c74, B93, if_pos rfl, h]; rfl⟩
end Go.Proofs.YtjcnfpfldocpdaaGreatDoor

namespace Go.Proofs.YtjcnfpfldocpdaaGreatDoor
open Go.RowKit
set_option linter.unusedVariables false

theorem insRev_pw {R : Int → Int → Prop} (tr : ∀ a b c, R a b → R b c → R a c) {lt : Int → Int → Bool} {x : Int} : ∀ {P : List Int}, (∀ y ∈ P, lt x y = true → R x y) → (∀ y ∈ P, lt x y = false → R y x) → P.Pairwise (fun a b => R b a) → (insRev lt x P).Pairwise (fun a b => R b a)
 | [], _, _, _ => by simp [insRev]
 | y :: r, h1, h2, hp => by
  obtain ⟨p1, p2⟩ := List.pairwise_cons.1 hp
  rw [insRev]
  cases hc : lt x y with
  | true =>
   rw [cond_true]
   refine List.pairwise_cons.2 ⟨fun z hz => ?_, insRev_pw tr (fun z hz => h1 z (List.mem_cons_of_mem _ hz)) (fun z hz => h2 z (List.mem_cons_of_mem _ hz)) p2⟩
   rcases List.mem_cons.1 ((insRev_perm lt x r).mem_iff.1 hz) with rfl | hz
   ·exact h1 y (by simp) hc
   ·exact p1 z hz
  | false =>
   rw [cond_false]
   have hyx := h2 y (by simp) hc
   refine List.pairwise_cons.2 ⟨fun z hz => ?_, hp⟩
   rcases List.mem_cons.1 hz with rfl | hz
   ·exact hyx
   ·exact tr _ _ _ (p1 z hz) hyx
theorem isort_fold_pw {R : Int → Int → Prop} (tr : ∀ a b c, R a b → R b c → R a c) {lt : Int → Int → Bool} : ∀ (L P : List Int), L.Pairwise (fun y x => (lt x y = true → R x y) ∧ (lt x y = false → R y x)) → (∀ y ∈ P, ∀ x ∈ L, (lt x y = true → R x y) ∧ (lt x y = false → R y x)) → P.Pairwise (fun a b => R b a) → (L.foldl (fun P x => insRev lt x P) P).Pairwise (fun a b => R b a)
 | [], P, _, _, hp => hp
 | x :: L, P, hL, hPL, hp => by
  obtain ⟨l1, l2⟩ := List.pairwise_cons.1 hL
  refine isort_fold_pw tr L _ l2 (fun y hy z hz => ?_) (insRev_pw tr (fun y hy => (hPL y hy x (by simp)).1) (fun y hy => (hPL y hy x (by simp)).2) hp)
  rcases List.mem_cons.1 ((insRev_perm lt x P).mem_iff.1 hy) with rfl | hy
  ·exact l1 z hz
  ·exact hPL y hy z (List.mem_cons_of_mem _ hz)
theorem isortR_pw {R : Int → Int → Prop} (tr : ∀ a b c, R a b → R b c → R a c) {lt : Int → Int → Bool} {L : List Int} (hL : L.Pairwise (fun y x => (lt x y = true → R x y) ∧ (lt x y = false → R y x))) : (isortR lt L).Pairwise R := by
 unfold isortR
 exact List.pairwise_reverse.2 (isort_fold_pw tr L [] hL (fun _ h => by cases h) .nil)
def ixs (n : Nat) : List Int := (List.range n).map Int.ofNat
theorem ixs_len (n : Nat) : (ixs n).length = n := by simp [ixs]
theorem ixs_succ (n : Nat) : ixs (n + 1) = ixs n ++ [(n : Int)] := by simp [ixs, List.range_succ]
theorem ixs_mem {n : Nat} {i : Int} : i ∈ ixs n ↔ 0 ≤ i ∧ i < n := by
 simp only [ixs, List.mem_map, List.mem_range]
 constructor
 ·rintro ⟨k, hk, rfl⟩; exact ⟨Int.natCast_nonneg k, by show (k : Int) < n; omega⟩
 ·intro h; exact ⟨i.toNat, by omega, by show ((i.toNat : Nat) : Int) = i; omega⟩
theorem ixs_lt (n : Nat) : (ixs n).Pairwise (· < ·) := by
 unfold ixs
 exact List.pairwise_map.2 (List.pairwise_lt_range.imp fun h => Int.ofNat_lt.2 h)
def byFine (l : List Od) : List Int := isortR (lt78 l) (ixs l.length)
theorem bef_trans {f : Nat → Int} {a b c : Nat} (h1 : bef f a b = true) (h2 : bef f b c = true) : bef f a c = true := by
 simp only [bef, Bool.or_eq_true, Bool.and_eq_true, decide_eq_true_eq] at *
 omega
theorem byFine_pw (l : List Od) : (byFine l).Pairwise fun a b => bef (fnl l) a.toNat b.toNat = true := by
 refine isortR_pw (R := fun a b => bef (fnl l) a.toNat b.toNat = true) (fun a b c => bef_trans) ?_
 refine (List.Pairwise.and_mem.1 (ixs_lt l.length)).imp fun {y x} h => ?_
 obtain ⟨hy, hx, hlt⟩ := h
 have hy := ixs_mem.1 hy
 have hx := ixs_mem.1 hx
 constructor
 ·intro h
  have h : (l.getD y.toNat d3).2.1 < (l.getD x.toNat d3).2.1 := of_decide_eq_true h
  have : decide (fnl l y.toNat < fnl l x.toNat) = true := decide_eq_true h
  simp [bef, this]
 ·intro h
  have h : ¬ (l.getD y.toNat d3).2.1 < (l.getD x.toNat d3).2.1 := of_decide_eq_false h
  show bef (fnl l) y.toNat x.toNat = true
  by_cases q : (l.getD x.toNat d3).2.1 < (l.getD y.toNat d3).2.1
  ·have : decide (fnl l x.toNat < fnl l y.toNat) = true := decide_eq_true q
   simp [bef, this]
  ·have h1 : decide (fnl l y.toNat = fnl l x.toNat) = true := decide_eq_true (by show (l.getD y.toNat d3).2.1 = (l.getD x.toNat d3).2.1; omega)
   have h2 : decide (y.toNat < x.toNat) = true := decide_eq_true (by omega)
   rw [bef, h1, h2, Bool.and_true, Bool.or_true]
theorem byFine_mem {l : List Od} {i : Int} : i ∈ byFine l ↔ 0 ≤ i ∧ i < l.length := by
 rw [← ixs_mem]; exact (isortR_perm _ _).mem_iff
def grd (l : List Od) : List Int → List Int → List Int
 | [], s => s
 | i :: r, s => cond (s.contains i) (grd l r s) (cond (fo 0 (srt (daysOf l (s ++ [i]))) == 0) (grd l r (s ++ [i])) (grd l r s))
def greedy (l : List Od) (s : List Int) : List Int := srt (grd l (byFine l) s)
theorem mem_app (s : List Int) (x i : Nat) : mem (s ++ [(x : Int)]) i = ins (mem s) x i := by
 simp only [mem, ins, List.contains_append]
 by_cases h : i = x
 ·subst h; simp
 ·have h2 : (i == x) = false := by simpa using h
  have h3 : ((i : Int) == (x : Int)) = false := by simp; omega
  have h4 : ([(x : Int)].contains (i : Int)) = false := by simp; omega
  rw [h4, h2]
theorem Ix.app {n : Nat} {s : List Int} (h : Ix n s) {x : Nat} (hx : x < n) (hm : mem s x = false) : Ix n (s ++ [(x : Int)]) := by
 refine ⟨fun i hi => ?_, ?_⟩
 ·rcases List.mem_append.1 hi with hi | hi
  ·exact h.rng i hi
  ·rcases List.mem_singleton.1 hi with rfl; omega
 ·rw [List.nodup_append]
  refine ⟨h.nd, by simp, fun a ha b hb => ?_⟩
  rcases List.mem_singleton.1 hb with rfl
  intro e; subst e
  have : mem s x = true := List.contains_iff_mem.2 ha
  rw [hm] at this; cases this
theorem Ix.perm {n : Nat} {s t : List Int} (h : Ix n s) (p : t.Perm s) : Ix n t := ⟨fun i hi => h.rng i (p.mem_iff.1 hi), p.nodup_iff.2 h.nd⟩
theorem mem_perm {s t : List Int} (p : t.Perm s) (i : Nat) : mem t i = mem s i := by
 unfold mem
 cases h : s.contains (i : Int) with
 | true => exact List.contains_iff_mem.2 (p.mem_iff.2 (List.contains_iff_mem.1 h))
 | false =>
  cases h2 : t.contains (i : Int) with
  | false => rfl
  | true => have := List.contains_iff_mem.2 (p.mem_iff.1 (List.contains_iff_mem.1 h2)); rw [h] at this; cases this
structure GI (l : List Od) (A : Nat → Bool) (D : List Int) (s : List Int) : Prop where
 ix : Ix l.length s
 pos : Pos (dyl l) l.length (mem s)
 sub : ∀ i, i < l.length → A i = true → mem s i = true
 J : ∀ i : Nat, mem s i = true → A i = true ∨ (i : Int) ∈ D
 K : ∀ e : Nat, e < l.length → (e : Int) ∈ D → mem s e = false → ¬ Pos (dyl l) l.length (ins (fun i => mem s i && (A i || bef (fnl l) i e)) e)
theorem grd_ok {l : List Od} (h1 : ∀ o ∈ l, 1 ≤ o.1) {A : Nat → Bool} : ∀ (R D s : List Int), (D ++ R).Pairwise (fun a b => bef (fnl l) a.toNat b.toNat = true) → (∀ i ∈ R, 0 ≤ i ∧ i < l.length) → GI l A D s → GI l A (D ++ R) (grd l R s)
 | [], D, s, _, _, h => by rw [List.append_nil]; exact h
 | i :: R, D, s, hp, hr, h => by
  have hi := hr i (by simp)
  obtain ⟨k, rfl⟩ : ∃ k : Nat, i = k := ⟨i.toNat, by omega⟩
  have hk : k < l.length := by omega
  have ee : D ++ (k : Int) :: R = (D ++ [(k : Int)]) ++ R := by simp
  have hr' : ∀ i ∈ R, 0 ≤ i ∧ i < l.length := fun i hi => hr i (List.mem_cons_of_mem _ hi)
  have hbef : ∀ d ∈ D, bef (fnl l) d.toNat k = true := fun d hd => (List.pairwise_append.1 hp).2.2 d hd (k : Int) (by simp)
  rw [ee] at hp ⊢
  rw [grd]
  cases hc : s.contains (k : Int) with
  | true =>
   rw [cond_true]
   refine grd_ok h1 R _ s hp hr' ⟨h.ix, h.pos, h.sub, fun i hi => (h.J i hi).imp id fun q => List.mem_append_left _ q, fun e he hD hm => ?_⟩
   rcases List.mem_append.1 hD with hD | hD
   ·exact h.K e he hD hm
   ·have : e = k := by have := List.mem_singleton.1 hD; omega
    subst this
    have : mem s e = true := hc
    rw [hm] at this; cases this
  | false =>
   have hmk : mem s k = false := hc
   have hix := h.ix.app hk hmk
   have hFO := (fo_FO h1 hix).congr fun i _ => mem_app s k i
   rw [cond_false]
   cases hf : fo 0 (srt (daysOf l (s ++ [(k : Int)]))) == 0 with
   | true =>
    rw [cond_true]
    have hpos := hFO.zero.1 (by simpa using hf)
    refine grd_ok h1 R _ _ hp hr' ⟨hix, fun d => ?_, fun i hi ha => ?_, fun i hi => ?_, fun e he hD hm hq => ?_⟩
    ·have : by_ (dyl l) l.length (mem (s ++ [(k : Int)])) d = by_ (dyl l) l.length (ins (mem s) k) d := cnt_congr fun i _ => by rw [mem_app]
     rw [this]; exact hpos d
    ·rw [mem_app]; simp [ins, h.sub i hi ha]
    ·rw [mem_app] at hi
     simp only [ins, Bool.or_eq_true, beq_iff_eq] at hi
     rcases hi with hi | rfl
     ·exact (h.J i hi).imp id fun q => List.mem_append_left _ q
     ·exact .inr (by simp)
    ·rw [mem_app] at hm
     simp only [ins, Bool.or_eq_false_iff] at hm
     have hek : e ≠ k := by simpa using hm.2
     rcases List.mem_append.1 hD with hD | hD
     ·refine h.K e he hD hm.1 (hq.sub (ins_sub fun j _ hj => ?_))
      simp only [Bool.and_eq_true] at hj ⊢
      refine ⟨?_, hj.2⟩
      rw [mem_app]; simp [ins, hj.1]
     ·exact hek (by have := List.mem_singleton.1 hD; omega)
   | false =>
    rw [cond_false]
    have hno : ¬ Pos (dyl l) l.length (ins (mem s) k) := fun q => by
     have := hFO.zero.2 q
     rw [this] at hf; simp at hf
    refine grd_ok h1 R _ s hp hr' ⟨h.ix, h.pos, h.sub, fun i hi => (h.J i hi).imp id fun q => List.mem_append_left _ q, fun e he hD hm hq => ?_⟩
    rcases List.mem_append.1 hD with hD | hD
    ·exact h.K e he hD hm hq
    ·have : e = k := by have := List.mem_singleton.1 hD; omega
     subst this
     refine hno (hq.sub (ins_sub fun j _ hj => ?_))
     simp only [Bool.and_eq_true, Bool.or_eq_true]
     exact ⟨hj, (h.J j hj).imp id fun q => by simpa using hbef _ q⟩
theorem greedy_ix {l : List Od} (h1 : ∀ o ∈ l, 1 ≤ o.1) {s : List Int} (hs : Ix l.length s) (hp : Pos (dyl l) l.length (mem s)) : Ix l.length (greedy l s) ∧ Gr (dyl l) (fnl l) l.length (mem s) (mem (greedy l s)) := by
 have h := grd_ok h1 (A := mem s) (byFine l) [] s (by simpa using byFine_pw l) (fun i hi => byFine_mem.1 hi) ⟨hs, hp, fun i _ h => h, fun i h => .inl h, fun e _ hD => by cases hD⟩
 rw [List.nil_append] at h
 have pm := srt_perm (grd l (byFine l) s)
 have e : ∀ i, mem (greedy l s) i = mem (grd l (byFine l) s) i := mem_perm pm
 have e2 : mem (greedy l s) = mem (grd l (byFine l) s) := funext e
 refine ⟨h.ix.perm pm, ?_⟩
 rw [e2]
 exact ⟨h.pos, h.sub, fun e he hG => h.K e he (byFine_mem.2 ⟨by omega, by omega⟩) hG⟩
def B35 (s : List Int) (v : Int) : Option Bool := if s.length ≤ 1000 then some (s.contains v) else none
def B63 (s : List Int) (v : Int) : Option Int := if s.length ≤ 1000 then some (fx (fun x => v == x) 0 s) else none
theorem KB63 : FnOk Tryz.prog 63 (F63 B63) := ok63 B63 fun s v r h => ⟨1001, by
 simp only [B63] at h
 split at h
 ·rename_i hl
  rw [← h, m63]
  exact rangeIx s 0 (fun n (_ : Unit) t => l63a 1001 s v n t) (fun _ _ _ => True) (fun t xs _ => some (fx (fun x => v == x) t xs))
   (fun n _ t x rest ht hx _ ih => by
    simp only [l63a, ixA ht, ixB ht, cond_true, chk_true, Int.toNat_natCast, ixW ht (by omega), hx, ih () trivial, fx]
    cases v == x <;> rfl)
   (fun n _ _ => by simp only [l63a, ixE, cond_false]; rfl) 1001 () (by omega) trivial
 ·cases h⟩
theorem KB35 : FnOk Tryz.prog 35 (F35 B35) := ok35 B63 KB63 B35 fun s v r h => ⟨0, by
 simp only [B35] at h
 split at h
 ·rename_i hl
  rw [← h, m35, B63, if_pos hl, Option.bind_some, fx_ge _ s 0 (by omega), List.contains_eq_any_beq]
 ·cases h⟩
def B44 (s : List Int) : Option (List Int) := some s
theorem KB44 : FnOk Tryz.prog 44 (F44 B44) := ok44 B44 fun s r h => ⟨0, by
 rw [← h, m44]
 have : (decide (0 ≤ (s.length : Int) ∧ (s.length : Int) ≤ (s.length : Int)) && decide ((s.length : Int) = (s.length : Int))) = true := by simp
 rw [this, chk_true, Int.toNat_natCast, List.take_length]; rfl⟩
def B71 (i : Int) (l : List Od) (s : List Int) : Option Bool :=
 if l.length ≤ 1000 ∧ s.length + 1 ≤ 1000 ∧ ∀ j ∈ s ++ [i], 0 ≤ j ∧ j < (l.length : Int) then some (fo 0 (srt (daysOf l (s ++ [i]))) == 0) else none
theorem KB71c : FnOk Tryz.prog 71 (F71c B71) := ok71c B44 B72 KB44 KB72 B71 fun i l s r h => ⟨0, by
 simp only [B71] at h
 split at h
 ·rename_i hh
  rw [← h, m71c, B44, Option.bind_some, small_of (by omega) (by decide), chk_true, B72, if_pos ⟨hh.1, by simp; omega, hh.2.2⟩, Option.bind_some]
 ·cases h⟩
theorem KB71v : FnOk Tryz.prog 71 (F71cv1 (A71v B71)) := ok71v KB71c
def B41v (l : List Od) (s : List Int) : Option (List Int) :=
 if l.length < 20 ∧ s.length ≤ 100 ∧ ∀ i ∈ s, 0 ≤ i ∧ i < (l.length : Int) then some (greedy l s) else none
def B41 (l : List Od) : Option (List Int) := B41v l []
theorem ixs_fill {n t : Nat} (h : t < n) : (ixs t ++ List.replicate (n - t) (0 : Int)).set t (t : Int) = ixs (t + 1) ++ List.replicate (n - (t + 1)) 0 := by
 rw [ixs_succ, show n - t = (n - (t + 1)) + 1 by omega, List.replicate_succ]
 have := ixs_len t
 rw [List.set_append_right _ _ (by omega), this, Nat.sub_self, List.set_cons_zero]
 simp
theorem byFine_len (l : List Od) : (byFine l).length = l.length := by rw [byFine, (isortR_perm _ _).length_eq, ixs_len]
theorem inR_iff {l : List Od} {i : Int} : inR l i = true ↔ 0 ≤ i ∧ i < (l.length : Int) := by simp [inR]
theorem B60_idx (l : List Od) (h : l.length < 20) : B73 lt78 (ixs l.length) l = some (byFine l, l) := if_pos ⟨by rw [ixs_len]; exact h, fun i hi => inR_iff.2 (ixs_mem.1 hi)⟩
theorem grd_step {l : List Od} (hl : l.length < 20) {x : Int} {rest s : List Int} {hs : s.length + (x :: rest).length ≤ 200} (hr : ∀ i ∈ s ++ x :: rest, 0 ≤ i ∧ i < (l.length : Int)) : B35 s x = some (s.contains x) ∧ A71v B71 x l s = some (fo 0 (srt (daysOf l (s ++ [x]))) == 0, l, s) ∧ small (s.length + 1) 8 = true := by
 simp only [List.length_cons] at hs
 refine ⟨if_pos (by omega), ?_, small_of (by omega) (by decide)⟩
 have hc : ∀ j ∈ s ++ [x], 0 ≤ j ∧ j < (l.length : Int) := fun j hj => by
  rcases List.mem_append.1 hj with hj | hj
  ·exact hr j (List.mem_append_left _ hj)
  ·rcases List.mem_singleton.1 hj with rfl; exact hr _ (List.mem_append_right _ (by simp))
 rw [A71v, B71, if_pos ⟨by omega, by omega, hc⟩]; rfl
theorem KB41v : FnOk Tryz.prog 41 (F41c B41v) := ok41c B35 (A71v B71) (B73 lt78) A75 KB35 KB71v KB73c74 ok75 B41v fun l s r h => ⟨1001, by
 simp only [B41v] at h
 split at h
 ·rename_i hh
  obtain ⟨hl, hsl, hsr⟩ := hh
  have loop2 : l41cb B35 (A71v B71) (B73 lt78) A75 1001 (byFine l, l) 1001 0 s l = some (greedy l s) :=
   rangeInv (byFine l) 0 (fun n (o : List Int) t => l41cb B35 (A71v B71) (B73 lt78) A75 1001 (byFine l, l) n t o l) (fun xs o => o.length + xs.length ≤ 200 ∧ ∀ i ∈ o ++ xs, 0 ≤ i ∧ i < (l.length : Int)) (fun xs o => some (srt (grd l xs o)))
    (fun n o t x rest ht hx hI ih => by
     obtain ⟨a, b, c⟩ := grd_step hl (hs := hI.1) hI.2
     obtain ⟨hI1, hI2⟩ := hI
     simp only [List.length_cons] at hI1
     simp only [l41cb, ixA ht, ixB ht, cond_true, chk_true, Int.toNat_natCast, ixW ht (by rw [byFine_len]; omega), hx, a, b, c, Option.bind_some]
     rw [ih (o ++ [x]) ⟨by simp; omega, fun i hi => hI2 i (by simpa using hi)⟩, ih o ⟨by omega, fun i hi => hI2 i (by
      rcases List.mem_append.1 hi with hi | hi
      ·exact List.mem_append_left _ hi
      ·exact List.mem_append_right _ (List.mem_cons_of_mem _ hi))⟩]
     rw [grd]
     cases s2 : o.contains x
     ·simp only [Bool.not_false, cond_true, cond_false]
      cases fo 0 (srt (daysOf l (o ++ [x]))) == 0 <;> rfl
     ·rfl)
    (fun n o hI => by
     simp only [l41cb, ixE, cond_false]
     have := hI.1
     rw [A75, if_pos (by simp only [List.length_nil] at this; omega), Option.bind_some]; rfl) 1001 s (by rw [byFine_len]; omega) ⟨by rw [byFine_len]; omega, fun i hi => by
      rcases List.mem_append.1 hi with hi | hi
      ·exact hsr i hi
      ·exact byFine_mem.1 hi⟩
  have loop1 : l41ca B35 (A71v B71) (B73 lt78) A75 1001 l s 1001 0 (List.replicate l.length 0) = some (greedy l s) := by
   refine rangeIx (List.replicate l.length (0 : Int)) 0 (fun n (o : List Int) t => l41ca B35 (A71v B71) (B73 lt78) A75 1001 l s n t o) (fun t xs o => t ≤ l.length ∧ o = ixs t ++ List.replicate (l.length - t) 0) (fun t xs o => some (greedy l s))
    (fun n o t x rest ht hx hI ih => ?_) (fun n o hI => ?_) 1001 _ (by simp; omega) ⟨by omega, by simp [ixs]⟩
   ·obtain ⟨h1, rfl⟩ := hI
    have ht' : t < l.length := by simpa using ht
    have hlen : (ixs t ++ List.replicate (l.length - t) (0 : Int)).length = l.length := by simp [ixs]; omega
    have hb : decide ((0 : Int) ≤ (t : Int) ∧ (t : Int) < ((ixs t ++ List.replicate (l.length - t) (0 : Int)).length : Int)) = true := by rw [hlen]; exact decide_eq_true (by omega)
    have ha : decide ((t : Int) < ((List.replicate l.length (0 : Int)).length : Int)) = true := by simp; omega
    simp only [l41ca, ha, hb, cond_true, chk_true, Int.toNat_natCast, w64_succ (show t < 4611686018427387904 by omega), ixs_fill ht']
    exact ih _ ⟨by omega, rfl⟩
   ·obtain ⟨h1, rfl⟩ := hI
    have ha : decide (((List.replicate l.length (0 : Int)).length : Int) < ((List.replicate l.length (0 : Int)).length : Int)) = false := by simp
    have e : ixs (List.replicate l.length (0 : Int)).length ++ List.replicate (l.length - (List.replicate l.length (0 : Int)).length) (0 : Int) = ixs l.length := by simp
    rw [e]
    simp only [l41ca, Int.toNat_natCast, ha, cond_false, B60_idx l hl, Option.bind_some]
    exact loop2
  rw [← h, m41c, mkOk_of (by omega) (by omega) (by omega) (by omega), chk_true, Int.toNat_natCast]
  exact loop1
 ·cases h⟩
theorem KB41 : FnOk Tryz.prog 41 (F41cv1 B41) := ok41cv1 B35 (A71v B71) (B73 lt78) A75 KB35 KB71v KB73c74 ok75 B41 fun l r h => ⟨1001, by
 simp only [B41, B41v] at h
 split at h
 ·rename_i hh
  obtain ⟨hl, hsl, hsr⟩ := hh
  have loop2 : l41cv1b B35 (A71v B71) (B73 lt78) A75 1001 (byFine l, l) 1001 0 [] l = some (greedy l []) :=
   rangeInv (byFine l) 0 (fun n (o : List Int) t => l41cv1b B35 (A71v B71) (B73 lt78) A75 1001 (byFine l, l) n t o l) (fun xs o => o.length + xs.length ≤ 200 ∧ ∀ i ∈ o ++ xs, 0 ≤ i ∧ i < (l.length : Int)) (fun xs o => some (srt (grd l xs o)))
    (fun n o t x rest ht hx hI ih => by
     obtain ⟨a, b, c⟩ := grd_step hl (hs := hI.1) hI.2
     obtain ⟨hI1, hI2⟩ := hI
     simp only [List.length_cons] at hI1
     simp only [l41cv1b, ixA ht, ixB ht, cond_true, chk_true, Int.toNat_natCast, ixW ht (by rw [byFine_len]; omega), hx, a, b, c, Option.bind_some]
     rw [ih (o ++ [x]) ⟨by simp; omega, fun i hi => hI2 i (by simpa using hi)⟩, ih o ⟨by omega, fun i hi => hI2 i (by
      rcases List.mem_append.1 hi with hi | hi
      ·exact List.mem_append_left _ hi
      ·exact List.mem_append_right _ (List.mem_cons_of_mem _ hi))⟩]
     rw [grd]
     cases s2 : o.contains x
     ·simp only [Bool.not_false, cond_true, cond_false]
      cases fo 0 (srt (daysOf l (o ++ [x]))) == 0 <;> rfl
     ·rfl)
    (fun n o hI => by
     simp only [l41cv1b, ixE, cond_false]
     have := hI.1
     rw [A75, if_pos (by simp only [List.length_nil] at this; omega), Option.bind_some]; rfl) 1001 [] (by rw [byFine_len]; omega) ⟨by rw [byFine_len]; simp; omega, fun i hi => byFine_mem.1 (by simpa using hi)⟩
  have loop1 : l41cv1a B35 (A71v B71) (B73 lt78) A75 1001 l 1001 0 (List.replicate l.length 0) = some (greedy l []) := by
   refine rangeIx (List.replicate l.length (0 : Int)) 0 (fun n (o : List Int) t => l41cv1a B35 (A71v B71) (B73 lt78) A75 1001 l n t o) (fun t xs o => t ≤ l.length ∧ o = ixs t ++ List.replicate (l.length - t) 0) (fun t xs o => some (greedy l []))
    (fun n o t x rest ht hx hI ih => ?_) (fun n o hI => ?_) 1001 _ (by simp; omega) ⟨by omega, by simp [ixs]⟩
   ·obtain ⟨h1, rfl⟩ := hI
    have ht' : t < l.length := by simpa using ht
    have hlen : (ixs t ++ List.replicate (l.length - t) (0 : Int)).length = l.length := by simp [ixs]; omega
    have hb : decide ((0 : Int) ≤ (t : Int) ∧ (t : Int) < ((ixs t ++ List.replicate (l.length - t) (0 : Int)).length : Int)) = true := by rw [hlen]; exact decide_eq_true (by omega)
    have ha : decide ((t : Int) < ((List.replicate l.length (0 : Int)).length : Int)) = true := by simp; omega
    simp only [l41cv1a, ha, hb, cond_true, chk_true, Int.toNat_natCast, w64_succ (show t < 4611686018427387904 by omega), ixs_fill ht']
    exact ih _ ⟨by omega, rfl⟩
   ·obtain ⟨h1, rfl⟩ := hI
    have ha : decide (((List.replicate l.length (0 : Int)).length : Int) < ((List.replicate l.length (0 : Int)).length : Int)) = false := by simp
    have e : ixs (List.replicate l.length (0 : Int)).length ++ List.replicate (l.length - (List.replicate l.length (0 : Int)).length) (0 : Int) = ixs l.length := by simp
    rw [e]
    simp only [l41cv1a, Int.toNat_natCast, ha, cond_false, B60_idx l hl, Option.bind_some]
    exact loop2
  rw [← h, m41cv1, mkOk_of (by omega) (by omega) (by omega) (by omega), chk_true, Int.toNat_natCast]
  exact loop1
 ·cases h⟩
end Go.Proofs.YtjcnfpfldocpdaaGreatDoor

namespace Go.Proofs.YtjcnfpfldocpdaaGreatDoor
open Go.RowKit
set_option linter.unusedVariables false

def putO (x : Od) : List Od → List Od
 | [] => [x]
 | y :: r => if y.2.1 < x.2.1 then x :: y :: r else y :: putO x r
def FallO (p : List Od) : Prop := p.Pairwise fun a b => b.2.1 ≤ a.2.1
theorem putO_mem {x : Od} : ∀ {p : List Od} {y : Od}, y ∈ putO x p ↔ y = x ∨ y ∈ p
 | [], y => by simp [putO]
 | z :: r, y => by
  unfold putO
  split
  ·simp
  ·simp only [List.mem_cons, putO_mem (p := r)]
   constructor
   ·rintro (h | h | h)
    ·exact .inr (.inl h)
    ·exact .inl h
    ·exact .inr (.inr h)
   ·rintro (h | h | h)
    ·exact .inr (.inl h)
    ·exact .inl h
    ·exact .inr (.inr h)
theorem putO_fall {x : Od} : ∀ {p : List Od}, FallO p → FallO (putO x p)
 | [], _ => by simp [putO, FallO]
 | y :: r, h => by
  obtain ⟨h1, h2⟩ := List.pairwise_cons.1 h
  unfold putO
  split
  ·rename_i hlt
   refine List.pairwise_cons.2 ⟨fun z hz => ?_, h⟩
   rcases List.mem_cons.1 hz with rfl | hz
   ·omega
   ·have := h1 z hz; omega
  ·rename_i hlt
   refine List.pairwise_cons.2 ⟨fun z hz => ?_, putO_fall h2⟩
   rcases putO_mem.1 hz with rfl | hz
   ·omega
   ·exact h1 z hz
theorem putO_len {x : Od} : ∀ {p : List Od}, (putO x p).length = p.length + 1
 | [] => rfl
 | y :: r => by
  unfold putO
  split
  ·simp
  ·simp only [List.length_cons, putO_len (p := r)]
theorem putO_split (x : Od) : ∀ {p : List Od}, FallO p → ∃ A B, p = A ++ B ∧ (∀ a ∈ A, x.2.1 ≤ a.2.1) ∧ (∀ b ∈ B, b.2.1 < x.2.1) ∧ putO x p = A ++ x :: B
 | [], _ => ⟨[], [], rfl, by simp, by simp, rfl⟩
 | y :: r, h => by
  obtain ⟨h1, h2⟩ := List.pairwise_cons.1 h
  by_cases hlt : y.2.1 < x.2.1
  ·refine ⟨[], y :: r, rfl, by simp, fun b hb => ?_, by rw [putO, if_pos hlt]; rfl⟩
   rcases List.mem_cons.1 hb with rfl | hb
   ·exact hlt
   ·have := h1 b hb; omega
  ·obtain ⟨A, B, e1, e2, e3, e4⟩ := putO_split x h2
   refine ⟨y :: A, B, by rw [e1]; rfl, fun a ha => ?_, e3, by rw [putO, if_neg hlt, e4]; rfl⟩
   rcases List.mem_cons.1 ha with rfl | ha
   ·omega
   ·exact e2 a ha
instance (p : List Od) : Decidable (FallO p) := by unfold FallO; infer_instance
def B66 (x : Od) (p : List Od) : Option (List Od) := if p.length ≤ 100000 ∧ FallO p then some (putO x p) else none
theorem put_loop (x : Od) {A B : List Od} (hA : ∀ a ∈ A, x.2.1 ≤ a.2.1) (hB : ∀ b ∈ B, b.2.1 < x.2.1) (hl : (A ++ B).length ≤ 100000) (N : Nat) : ∀ (m n : Nat), m ≤ B.length → m < n → l66ca B64 A86 N x (A ++ B) n ((A.length + m : Nat) : Int) = some (A ++ x :: B)
 | 0, n, hm, hn => by
  obtain ⟨k, rfl⟩ : ∃ k, n = k + 1 := ⟨n - 1, by omega⟩
  rw [List.length_append] at hl
  have hins : A86 ((A.length + 0 : Nat) : Int) [x] (A ++ B) = some (A ++ x :: B) := by
   rw [A86, if_pos ⟨by omega, by rw [List.length_append]; omega, rfl, by rw [List.length_append]; omega⟩]
   simp
  cases hz : decide (((A.length + 0 : Nat) : Int) > 0) with
  | false => simp only [l66ca, hz, cond_false, hins, Option.bind_some]
  | true =>
   have hz' : 0 < A.length := by have := of_decide_eq_true hz; omega
   have e : w64 (((A.length + 0 : Nat) : Int) - 1) = ((A.length - 1 : Nat) : Int) := by rw [w64_small (by omega)]; omega
   have hget : (A ++ B).getD (A.length - 1) d3 ∈ A := by
    rw [List.getD_eq_getElem?_getD, List.getElem?_append_left (by omega), List.getElem?_eq_getElem (by omega), Option.getD_some]
    exact List.getElem_mem _
   have h2 := hA _ hget
   have hc : decide (cmpI ((A ++ B).getD (A.length - 1) d3).2.1 x.2.1 < 0) = false := by rw [cmpI_lt]; exact decide_eq_false (by omega)
   simp only [l66ca, hz, cond_true, e, ixB (show A.length - 1 < (A ++ B).length by rw [List.length_append]; omega), chk_true, Int.toNat_natCast, B64, Option.bind_some, hc, cond_false, hins]
 | m + 1, n, hm, hn => by
  obtain ⟨k, rfl⟩ : ∃ k, n = k + 1 := ⟨n - 1, by omega⟩
  have hl' := hl
  rw [List.length_append] at hl
  have hz : decide (((A.length + (m + 1) : Nat) : Int) > 0) = true := decide_eq_true (by omega)
  have e : w64 (((A.length + (m + 1) : Nat) : Int) - 1) = ((A.length + m : Nat) : Int) := by rw [w64_small (by omega)]; omega
  have hget : (A ++ B).getD (A.length + m) d3 ∈ B := by
   rw [List.getD_eq_getElem?_getD, List.getElem?_append_right (by omega), Nat.add_sub_cancel_left, List.getElem?_eq_getElem (by omega), Option.getD_some]
   exact List.getElem_mem _
  have h2 := hB _ hget
  have hc : decide (cmpI ((A ++ B).getD (A.length + m) d3).2.1 x.2.1 < 0) = true := by rw [cmpI_lt]; exact decide_eq_true h2
  have ih := put_loop x hA hB hl' N m k (by omega) (by omega)
  simp only [l66ca, hz, cond_true, e, ixB (show A.length + m < (A ++ B).length by rw [List.length_append]; omega), chk_true, Int.toNat_natCast, B64, Option.bind_some, hc, ih]
theorem KB66 : FnOk Tryz.prog 66 (F66c B66) := ok66c B64 A86 KB64 ok86 B66 fun x p r h => ⟨100001, by
 simp only [B66] at h
 split at h
 ·rename_i hh
  obtain ⟨A, B, rfl, hA, hB, e⟩ := putO_split x hh.2
  rw [← h, m66c, e]
  have := put_loop x hA hB hh.1 100001 B.length 100001 (Nat.le_refl _) (by have := hh.1; rw [List.length_append] at this; omega)
  rw [← List.length_append] at this
  exact this
 ·cases h⟩
def takeO : List Od → Od × Bool × List Od
 | [] => (d3, false, [])
 | x :: r => (x, true, r)
def B67 (p : List Od) : Option (Od × Bool × List Od) := if p.length ≤ 1000000 then some (takeO p) else none
theorem KB67 : FnOk Tryz.prog 67 (F67c B67) := ok67c B67 fun p r h => ⟨0, by
 simp only [B67] at h
 split at h
 ·rw [← h, m67c]
  cases p with
  | nil => rfl
  | cons x r =>
   have h1 : ((((x :: r).length : Nat) : Int) == 0) = false := by simp; omega
   have h2 : decide ((0 : Int) ≤ 0 ∧ (0 : Int) < (((x :: r).length : Nat) : Int)) = true := decide_eq_true (by rw [List.length_cons]; omega)
   have h3 : decide ((0 : Int) ≤ 1 ∧ (1 : Int) ≤ (((x :: r).length : Nat) : Int)) = true := decide_eq_true (by rw [List.length_cons]; omega)
   rw [h1, h2, h3]; rfl
 ·cases h⟩
def dayO (l : List Od) (t : Nat) (Q : List Od) : List Od := l.foldl (fun q o => cond (o.1 == (t : Int)) (putO o q) q) Q
def runO (l : List Od) : Nat → List Od → Int
 | 0, _ => 0
 | t + 1, Q => match dayO l (t + 1) Q with
  | [] => runO l t []
  | o :: r => o.2.1 + runO l t r
def lastO (l : List Od) : Int := l.foldl (fun m o => imax m o.1) 0
def sumO : List Od → Int
 | [] => 0
 | o :: r => o.2.1 + sumO r
def leastO (l : List Od) : Int := sumO l - runO l (lastO l).toNat []
structure Ok6 (l : List Od) : Prop where
 len : l.length ≤ 12
 all : ∀ o ∈ l, (1 ≤ o.1 ∧ o.1 ≤ 60) ∧ 0 ≤ o.2.1 ∧ o.2.1 ≤ 10000
instance (l : List Od) : Decidable (Ok6 l) := decidable_of_iff (l.length ≤ 12 ∧ ∀ o ∈ l, (1 ≤ o.1 ∧ o.1 ≤ 60) ∧ 0 ≤ o.2.1 ∧ o.2.1 ≤ 10000) ⟨fun h => ⟨h.1, h.2⟩, fun h => ⟨h.1, h.2⟩⟩
theorem imax_eq (a b : Int) : imax a b = if a < b then b else a := by
 unfold imax
 by_cases h : a < b <;> simp [h] <;> omega
theorem lastO_le {l : List Od} : ∀ {m : Int}, 0 ≤ m → m ≤ 60 → (∀ o ∈ l, 1 ≤ o.1 ∧ o.1 ≤ 60) → 0 ≤ l.foldl (fun m o => imax m o.1) m ∧ l.foldl (fun m o => imax m o.1) m ≤ 60 ∧ m ≤ l.foldl (fun m o => imax m o.1) m ∧ ∀ o ∈ l, o.1 ≤ l.foldl (fun m o => imax m o.1) m := by
 induction l with
 | nil => intro m h0 h1 _; exact ⟨h0, h1, Int.le_refl _, fun _ h => by cases h⟩
 | cons x r ih =>
  intro m h0 h1 h
  have hx := h x (by simp)
  simp only [List.foldl_cons]
  have hi := imax_eq m x.1
  have hb : 0 ≤ imax m x.1 ∧ imax m x.1 ≤ 60 ∧ m ≤ imax m x.1 ∧ x.1 ≤ imax m x.1 := by rw [hi]; split <;> omega
  obtain ⟨a, b, c, d⟩ := ih hb.1 hb.2.1 (fun o ho => h o (List.mem_cons_of_mem _ ho))
  refine ⟨a, b, by omega, fun o ho => ?_⟩
  rcases List.mem_cons.1 ho with rfl | ho
  ·omega
  ·exact d o ho
theorem sumO_le {l : List Od} (h : ∀ o ∈ l, 0 ≤ o.2.1 ∧ o.2.1 ≤ 10000) : 0 ≤ sumO l ∧ sumO l ≤ 10000 * l.length := by
 induction l with
 | nil => simp [sumO]
 | cons x r ih =>
  have hx := h x (by simp)
  obtain ⟨a, b⟩ := ih fun o ho => h o (List.mem_cons_of_mem _ ho)
  simp only [sumO, List.length_cons]; omega
structure QO (b : Nat) (Q : List Od) : Prop where
 len : Q.length ≤ b
 fall : FallO Q
 all : ∀ o ∈ Q, 0 ≤ o.2.1 ∧ o.2.1 ≤ 10000
theorem QO.put {b : Nat} {Q : List Od} (h : QO b Q) {x : Od} (hx : 0 ≤ x.2.1 ∧ x.2.1 ≤ 10000) : QO (b + 1) (putO x Q) := ⟨by rw [putO_len]; have := h.len; omega, putO_fall h.fall, fun o ho => by
 rcases putO_mem.1 ho with rfl | ho
 ·exact hx
 ·exact h.all o ho⟩
theorem dayO_ok {t : Nat} : ∀ {l : List Od} {b : Nat} {Q : List Od}, (∀ o ∈ l, 0 ≤ o.2.1 ∧ o.2.1 ≤ 10000) → QO b Q → QO (b + l.length) (dayO l t Q)
 | [], b, Q, _, h => h
 | x :: r, b, Q, hl, h => by
  unfold dayO
  simp only [List.foldl_cons]
  have hx := hl x (by simp)
  have hr : ∀ o ∈ r, 0 ≤ o.2.1 ∧ o.2.1 ≤ 10000 := fun o ho => hl o (List.mem_cons_of_mem _ ho)
  cases x.1 == (t : Int) with
  | true =>
   rw [cond_true]
   have := dayO_ok (t := t) hr (h.put hx)
   rw [show b + 1 + r.length = b + (x :: r).length by simp; omega] at this
   exact this
  | false =>
   rw [cond_false]
   have := dayO_ok (t := t) (b := b) (Q := Q) hr h
   exact ⟨by have := this.len; simp only [List.length_cons]; unfold dayO at this; omega, this.fall, this.all⟩
theorem fill_loop {l : List Od} (hl : Ok6 l) {last n : Int} {tb : Int} {t : Nat} (ht : w64 (last - tb) = (t : Int)) {rec : Int → Int → List Od → Option Int} {Q : List Od} {b : Nat} (hQ : QO b Q) (hb : b ≤ 90000) (N : Nat) (hN : 1001 ≤ N) : l36c B66 B67 N l last n tb rec N 0 Q = (B67 (dayO l t Q)).bind fun r => cond r.2.1 (rec (w64 (n - r.1.2.1)) (w64 (tb + 1)) r.2.2) (rec n (w64 (tb + 1)) r.2.2) :=
 rangeInv l d3 (fun k (Q : List Od) t => l36c B66 B67 N l last n tb rec k t Q) (fun xs Q => (∃ b, QO b Q ∧ b + xs.length ≤ 90012) ∧ ∀ o ∈ xs, 0 ≤ o.2.1 ∧ o.2.1 ≤ 10000) (fun xs Q => (B67 (dayO xs t Q)).bind fun r => cond r.2.1 (rec (w64 (n - r.1.2.1)) (w64 (tb + 1)) r.2.2) (rec n (w64 (tb + 1)) r.2.2))
  (fun k Q i x rest hi hx hI ih => by
   obtain ⟨⟨b, hQ, hb⟩, hall⟩ := hI
   simp only [List.length_cons] at hb
   have hbl := hQ.len
   have hput : B66 x Q = some (putO x Q) := if_pos ⟨by omega, hQ.fall⟩
   have hle := hl.len
   simp only [l36c, ixA hi, ixB hi, cond_true, chk_true, Int.toNat_natCast, ixW hi (by omega), hx, ht, hput, Option.bind_some]
   have hall' : ∀ o ∈ rest, 0 ≤ o.2.1 ∧ o.2.1 ≤ 10000 := fun o ho => hall o (List.mem_cons_of_mem _ ho)
   rw [ih (putO x Q) ⟨⟨b + 1, hQ.put (hall x (by simp)), by omega⟩, hall'⟩, ih Q ⟨⟨b, hQ, by omega⟩, hall'⟩]
   show _ = (B67 (dayO rest t (cond (x.1 == (t : Int)) (putO x Q) Q))).bind _
   cases x.1 == (t : Int) <;> rfl)
  (fun k Q hI => by simp only [l36c, ixE, cond_false]; rfl) N Q (by have := hl.len; omega) ⟨⟨b, hQ, by have := hl.len; omega⟩, fun o ho => (hl.all o ho).2⟩
theorem back_loop {l : List Od} (hl : Ok6 l) {L : Nat} (hL : L ≤ 60) (N : Nat) (hN : 1001 ≤ N) : ∀ (t k : Nat) (n : Int) (Q : List Od), t ≤ L → t < k → QO (12 * (60 - t)) Q → -1000000 + 10000 * (t : Int) ≤ n ∧ n ≤ 1000000 → l36b B66 B67 N l (L : Int) k n ((L - t : Nat) : Int) Q = some (n - runO l t Q) := by
 intro t
 induction t with
 | zero =>
  intro k n Q h1 h2 hQ hn
  obtain ⟨k, rfl⟩ : ∃ m, k = m + 1 := ⟨k - 1, by omega⟩
  simp only [l36b, Nat.sub_zero, ixE, cond_false, runO, Int.sub_zero]
 | succ t ih =>
  intro k n Q h1 h2 hQ hn
  obtain ⟨k, rfl⟩ : ∃ m, k = m + 1 := ⟨k - 1, by omega⟩
  have hf : ∀ o ∈ l, 0 ≤ o.2.1 ∧ o.2.1 ≤ 10000 := fun o ho => (hl.all o ho).2
  have hd := dayO_ok (t := t + 1) hf hQ
  have hlen := hl.len
  have e1 : w64 ((L : Int) - ((L - (t + 1) : Nat) : Int)) = ((t + 1 : Nat) : Int) := by rw [w64_small (by omega)]; omega
  have e2 : w64 (((L - (t + 1) : Nat) : Int) + 1) = ((L - t : Nat) : Int) := by rw [w64_small (by omega)]; omega
  have hd' : QO (12 * (60 - t)) (dayO l (t + 1) Q) := ⟨by have := hd.len; omega, hd.fall, hd.all⟩
  simp only [l36b, decide_eq_true (show ((L - (t + 1) : Nat) : Int) < (L : Int) by omega), cond_true]
  rw [fill_loop hl e1 hQ (by omega) N hN, B67, if_pos (by have := hd'.len; omega), Option.bind_some, e2]
  simp only [runO]
  cases he : dayO l (t + 1) Q with
  | nil =>
   simp only [takeO, cond_false]
   exact ih k n [] (by omega) (by omega) ⟨by simp, by simp [FallO], by simp⟩ (by omega)
  | cons o r =>
   rw [he] at hd'
   have ho := hd'.all o (by simp)
   have hr : QO (12 * (60 - t)) r := ⟨by have := hd'.len; simp only [List.length_cons] at this; omega, (List.pairwise_cons.1 hd'.fall).2, fun o ho => hd'.all o (List.mem_cons_of_mem _ ho)⟩
   simp only [takeO, cond_true]
   rw [w64_small (by omega), ih k _ r (by omega) (by omega) hr (by omega)]
   congr 1; omega
def B36 (l : List Od) : Option Int := if Ok6 l then some (leastO l) else none
theorem KB36 : FnOk Tryz.prog 36 (F36 B36) := ok36 B66 B67 KB66 KB67 B36 fun l r h => ⟨1001, by
 simp only [B36] at h
 split at h
 ·rename_i hl
  rw [← h, m36]
  obtain ⟨c1, c2, _, _⟩ := lastO_le (l := l) (m := 0) (by omega) (by omega) fun o ho => (hl.all o ho).1
  obtain ⟨s1, s2⟩ := sumO_le fun o ho => (hl.all o ho).2
  have hlen := hl.len
  obtain ⟨L, hL⟩ : ∃ L : Nat, lastO l = L := ⟨(lastO l).toNat, by unfold lastO; omega⟩
  have main := rangeInv l d3 (fun k (s : Int × Int) t => l36a B66 B67 1001 l k s.1 s.2 t) (fun xs s => 0 ≤ s.2 ∧ s.2 + sumO xs ≤ 1000000 ∧ xs.foldl (fun m o => imax m o.1) s.1 = lastO l ∧ ∀ o ∈ xs, 0 ≤ o.2.1 ∧ o.2.1 ≤ 10000) (fun xs s => some (s.2 + sumO xs - runO l (lastO l).toNat []))
   (fun k s t x rest ht hx hI ih => by
    obtain ⟨i1, i2, i3, i4⟩ := hI
    have hx0 := i4 x (by simp)
    have hr0 : ∀ o ∈ rest, 0 ≤ o.2.1 ∧ o.2.1 ≤ 10000 := fun o ho => i4 o (List.mem_cons_of_mem _ ho)
    have := sumO_le hr0
    simp only [sumO] at i2 ⊢
    simp only [l36a, ixA ht, ixB ht, cond_true, chk_true, Int.toNat_natCast, ixW ht (by omega), hx]
    rw [w64_small (by omega), ih (imax s.1 x.1, s.2 + x.2.1) ⟨by show 0 ≤ s.2 + x.2.1; omega, by show s.2 + x.2.1 + sumO rest ≤ _; omega, i3, hr0⟩]
    show some (s.2 + x.2.1 + sumO rest - _) = _
    congr 1; omega)
   (fun k s hI => by
    obtain ⟨i1, i2, i3, i4⟩ := hI
    simp only [List.foldl_nil] at i3
    simp only [sumO, Int.add_zero] at i2 ⊢
    simp only [l36a, ixE, cond_false, i3, hL, Int.toNat_natCast]
    have hL6 : (L : Int) ≤ 60 := by rw [← hL]; exact c2
    have := back_loop hl (L := L) (by omega) 1001 (by omega) L 1001 s.2 [] (Nat.le_refl _) (by omega) ⟨by simp, by simp [FallO], by simp⟩ (by omega)
    rw [Nat.sub_self] at this
    exact this) 1001 (0, 0) (by omega) ⟨by simp, by simp; omega, rfl, fun o ho => (hl.all o ho).2⟩
  rw [main]; simp [leastO]
 ·cases h⟩
theorem qput_map (l : List Od) (i : Nat) : ∀ Q : List Nat, putO (l.getD i d3) (Q.map fun j => l.getD j d3) = (qput (fnl l) i Q).map fun j => l.getD j d3
 | [] => rfl
 | j :: r => by
  simp only [List.map_cons, putO, qput]
  have e : fnl l j < fnl l i ↔ (l.getD j d3).2.1 < (l.getD i d3).2.1 := Iff.rfl
  by_cases h : (l.getD j d3).2.1 < (l.getD i d3).2.1
  ·rw [if_pos h, if_pos (e.2 h)]; rfl
  ·rw [if_neg h, if_neg fun q => h (e.1 q), qput_map l i r]; rfl
theorem map_range (l : List Od) : ((List.range l.length).map fun j => l.getD j d3) = l := by
 apply List.ext_getElem
 ·simp
 ·intro i h1 h2
  simp [List.getD, List.getElem?_eq_getElem h2]
theorem day_map {l : List Od} (h1 : ∀ o ∈ l, 1 ≤ o.1) (t : Nat) (Q : List Nat) : dayO l t (Q.map fun j => l.getD j d3) = (qday (dyl l) (fnl l) l.length t Q).map fun j => l.getD j d3 := by
 have key : ∀ (I : List Nat) (Q : List Nat), (∀ i ∈ I, i < l.length) → ((I.map fun j => l.getD j d3).foldl (fun q o => cond (o.1 == (t : Int)) (putO o q) q) (Q.map fun j => l.getD j d3)) = (I.foldl (fun q i => if dyl l i = t then qput (fnl l) i q else q) Q).map fun j => l.getD j d3 := by
  intro I
  induction I with
  | nil => intro Q _; rfl
  | cons i I ih =>
   intro Q hI
   simp only [List.map_cons, List.foldl_cons]
   have hi := hI i (by simp)
   have hd := h1 _ (List.getElem_mem hi)
   have hg : l.getD i d3 = l[i] := by simp [List.getD, List.getElem?_eq_getElem hi]
   have e : dyl l i = t ↔ (l.getD i d3).1 = (t : Int) := by unfold dyl; rw [hg]; omega
   by_cases h : dyl l i = t
   ·have hb : ((l.getD i d3).1 == (t : Int)) = true := by simpa using e.1 h
    rw [hb, cond_true, if_pos h, qput_map, ih _ fun j hj => hI j (List.mem_cons_of_mem _ hj)]
   ·have hb : ((l.getD i d3).1 == (t : Int)) = false := by
     cases q : ((l.getD i d3).1 == (t : Int)) with
     | false => rfl
     | true => exact absurd (e.2 (by simpa using q)) h
    rw [hb, cond_false, if_neg h, ih _ fun j hj => hI j (List.mem_cons_of_mem _ hj)]
 have := key (List.range l.length) Q fun i hi => List.mem_range.1 hi
 rw [map_range] at this
 exact this
theorem runO_run {l : List Od} (h1 : ∀ o ∈ l, 1 ≤ o.1) : ∀ (t : Nat) (Q : List Nat), runO l t (Q.map fun j => l.getD j d3) = run (dyl l) (fnl l) l.length t Q
 | 0, Q => rfl
 | t + 1, Q => by
  simp only [runO, run]
  rw [day_map h1]
  cases qday (dyl l) (fnl l) l.length (t + 1) Q with
  | nil => exact runO_run h1 t []
  | cons i r => simp only [List.map_cons]; rw [runO_run h1 t r]; rfl
def tot (l : List Od) : Int := ws (fnl l) (fun _ => true) l.length
theorem ws_shift (f : Nat → Int) (p : Nat → Bool) : ∀ n, ws f p (n + 1) = cond (p 0) (f 0) 0 + ws (fun i => f (i + 1)) (fun i => p (i + 1)) n
 | 0 => by simp [ws]
 | n + 1 => by
  rw [ws, ws_shift f p n]; simp only [ws]; omega
theorem sumO_tot : ∀ l : List Od, sumO l = tot l
 | [] => rfl
 | x :: r => by
  have := ws_shift (fnl (x :: r)) (fun _ => true) r.length
  rw [sumO, sumO_tot r]; exact this.symm
theorem fnl_rng {l : List Od} {M : Int} (h : ∀ o ∈ l, 0 ≤ o.2.1 ∧ o.2.1 ≤ M) {i : Nat} (hi : i < l.length) : 0 ≤ fnl l i ∧ fnl l i ≤ M := by
 have := h _ (List.getElem_mem hi)
 simpa [fnl, List.getD, List.getElem?_eq_getElem hi] using this
theorem dyl_rng {l : List Od} {M : Nat} (h : ∀ o ∈ l, 1 ≤ o.1 ∧ o.1 ≤ (M : Int)) {i : Nat} (hi : i < l.length) : 1 ≤ dyl l i ∧ dyl l i ≤ M := by
 have := h _ (List.getElem_mem hi)
 have e : dyl l i = (l[i]).1.toNat := by simp [dyl, List.getD, List.getElem?_eq_getElem hi]
 rw [e]; omega
theorem leastO_ok {l : List Od} (h : Ok6 l) : (∀ T, Pos (dyl l) l.length T → leastO l ≤ tot l - ws (fnl l) T l.length) ∧ ∃ T, Pos (dyl l) l.length T ∧ leastO l = tot l - ws (fnl l) T l.length := by
 obtain ⟨c1, c2, _, c4⟩ := lastO_le (l := l) (m := 0) (by omega) (by omega) fun o ho => (h.all o ho).1
 have hL : ∀ i, i < l.length → dyl l i ≤ (lastO l).toNat := fun i hi => by
  have := c4 _ (List.getElem_mem hi)
  have e : dyl l i = (l[i]).1.toNat := by simp [dyl, List.getD, List.getElem?_eq_getElem hi]
  rw [e]; unfold lastO; omega
 obtain ⟨o1, T, o2, o3⟩ := run_opt (dy := dyl l) (f := fnl l) (n := l.length) (fun i hi => (fnl_rng (fun o ho => (h.all o ho).2) hi).1) hL
 have e := runO_run (fun o ho => (h.all o ho).1.1) (lastO l).toNat []
 rw [List.map_nil] at e
 unfold leastO
 rw [sumO_tot, e]
 exact ⟨fun T hT => by have := o1 T hT; omega, T, o2, by rw [o3]⟩
end Go.Proofs.YtjcnfpfldocpdaaGreatDoor

namespace Go.Proofs.YtjcnfpfldocpdaaGreatDoor
open Go.RowKit
set_option linter.unusedVariables false

theorem wrap_i64 {n : Nat} (h : n < 9223372036854775808) : IntKind.wrap .i64 (n : Int) = n := w64_nat h
def tb (k : Nat) : Nat → Bool := fun i => k.testBit i
def fod (dy : Nat → Nat) (n : Nat) (S : Nat → Bool) : Nat → Nat → Int
 | 0, _ => 0
 | m + 1, d => if d < by_ dy n S d then (d : Int) else fod dy n S m (d + 1)
def ofm (l : List Od) (k : Nat) : Int := fod (dyl l) l.length (tb k) 60 1
theorem Ok6.dy {l : List Od} (h : Ok6 l) {i : Nat} (hi : i < l.length) : 1 ≤ dyl l i ∧ dyl l i ≤ 60 := dyl_rng (M := 60) (fun o ho => (h.all o ho).1) hi
theorem Ok6.fn {l : List Od} (h : Ok6 l) {i : Nat} (hi : i < l.length) : 0 ≤ fnl l i ∧ fnl l i ≤ (10000 : Nat) := fnl_rng (M := 10000) (fun o ho => (h.all o ho).2) hi
def mok (k : Int) : Prop := 0 ≤ k ∧ k < 4611686018427387904
instance (k : Int) : Decidable (mok k) := by unfold mok; infer_instance
def fim (l : List Od) (k : Nat) : Int := ws (fnl l) (fun i => !tb k i) l.length
theorem ws_rng {f : Nat → Int} {p : Nat → Bool} : ∀ {n : Nat}, (∀ i, i < n → 0 ≤ f i ∧ f i ≤ (10000 : Nat)) → 0 ≤ ws f p n ∧ ws f p n ≤ 10000 * n
 | 0, _ => by simp [ws]
 | n + 1, h => by
  obtain ⟨a, b⟩ := ws_rng (p := p) (n := n) fun i hi => h i (by omega)
  have := h n (by omega)
  simp only [ws]
  cases p n <;> simp <;> omega
def bst (l : List Od) : Nat → Int × List Int
 | 0 => (fim l 0, [])
 | k + 1 => if (bst l k).1 < fim l k then bst l k else if 0 < ofm l k then bst l k else if fim l k < (bst l k).1 then (fim l k, [(k : Int)]) else ((bst l k).1, (bst l k).2 ++ [(k : Int)])
def psm (l : List Od) (k : Nat) : Bool := decide (ofm l k = 0)
structure BI (l : List Od) (K : Nat) : Prop where
 low : ∀ k, k < K → psm l k = true → (bst l K).1 ≤ fim l k
 at_ : (∃ k, k < K ∧ psm l k = true ∧ fim l k = (bst l K).1) ∨ K = 0
 set : (bst l K).2 = ((List.range K).filter fun k => psm l k && decide (fim l k = (bst l K).1)).map Int.ofNat
def BestS (l : List Od) (T : Nat → Bool) : Prop := Pos (dyl l) l.length T ∧ ws (fnl l) T l.length = tot l - leastO l
theorem Pos.congr {dy : Nat → Nat} {n : Nat} {S T : Nat → Bool} (h : Pos dy n S) (hst : ∀ i, i < n → T i = S i) : Pos dy n T := h.sub fun i hi q => by rw [← hst i hi]; exact q
theorem BestS.congr {l : List Od} {S T : Nat → Bool} (h : BestS l S) (hst : ∀ i, i < l.length → T i = S i) : BestS l T := ⟨h.1.congr hst, by rw [ws_congr hst fun _ _ _ => rfl]; exact h.2⟩
end Go.Proofs.YtjcnfpfldocpdaaGreatDoor

namespace Go.Proofs.YtjcnfpfldocpdaaGreatDoor
open Go.RowKit
set_option linter.unusedVariables false

theorem OkO.six {l : List Od} (h : OkO l) : Ok6 l := ⟨h.len, fun o ho => by have := h.all o ho; omega⟩
theorem okO_of {l : List Od} (h : ckO l = 0) : Ok6 l := (ckO_ok h).six
theorem bne_F {x : Int} (h : x = 0) : (x != 0) = false := by simp [h]
theorem bne_T {x : Int} (h : ¬ x = 0) : (x != 0) = true := by simp [h]
def lea (l : List Od) : Int × Int := if ckO l = 0 then (leastO l, 0) else (0, ckO l)
def B10 (l : List Od) : Option (Int × Int) := if l.length ≤ 1000 then some (lea l) else none
theorem B53_ok {l : List Od} (h : Ok6 l) : B36 l = some (leastO l) := if_pos h
theorem KB10 : FnOk Tryz.prog 10 (F10 B10) := ok10 B33 B36 KB33 KB36 B10 fun l r h => ⟨0, by
 simp only [B10] at h
 split at h
 ·rename_i hl
  rw [← h, m10, B33, if_pos hl, Option.bind_some, lea]
  by_cases hc : ckO l = 0
  ·rw [if_pos hc, bne_F hc, cond_false, B53_ok (okO_of hc), Option.bind_some]
  ·rw [if_neg hc, bne_T hc, cond_true]
 ·cases h⟩
def stO (l : List Od) : List Int × Int := if ckO l = 0 then (greedy l [], 0) else ([], ckO l)
def B15 (l : List Od) : Option (List Int × Int) := if l.length ≤ 1000 then some (stO l) else none
theorem B55_ok {l : List Od} (h : Ok6 l) : B41 l = some (greedy l []) := if_pos ⟨by have := h.len; omega, by simp, fun _ h => by cases h⟩
theorem KB15 : FnOk Tryz.prog 15 (F15 B15) := ok15 B33 B41 KB33 KB41 B15 fun l r h => ⟨0, by
 simp only [B15] at h
 split at h
 ·rename_i hl
  rw [← h, m15, B33, if_pos hl, Option.bind_some, stO]
  by_cases hc : ckO l = 0
  ·rw [if_pos hc, bne_F hc, cond_false, B55_ok (okO_of hc), Option.bind_some]
  ·rw [if_neg hc, bne_T hc, cond_true]
 ·cases h⟩
def lstF (p : Nat → Bool) : Nat → Nat → List Int
 | 0, _ => []
 | m + 1, t => cond (p t) ((t : Int) :: lstF p m (t + 1)) (lstF p m (t + 1))
theorem lstF_len (p : Nat → Bool) : ∀ m t, (lstF p m t).length ≤ m
 | 0, t => by simp [lstF]
 | m + 1, t => by
  rw [lstF]
  have := lstF_len p m (t + 1)
  cases p t <;> simp <;> omega
theorem lstF_mem {p : Nat → Bool} : ∀ {m t : Nat} {i : Int}, i ∈ lstF p m t ↔ (t : Int) ≤ i ∧ i < ((t + m : Nat) : Int) ∧ p i.toNat = true
  | 0, t, i => by simp only [lstF, List.not_mem_nil, false_iff]; omega
  | m + 1, t, i => by
    have ih := lstF_mem (p := p) (m := m) (t := t + 1) (i := i)
    rw [lstF]
    by_cases q : i = (t : Int)
    · subst q
      cases hp : p t with
      | true => simp [hp]; omega
      | false =>
        rw [cond_false, ih]
        simp only [Int.toNat_natCast, hp]
        constructor
        · intro h; omega
        · intro h; exact absurd h.2.2 (by decide)
    · have e : (t : Int) ≤ i ↔ ((t + 1 : Nat) : Int) ≤ i := by omega
      cases hp : p t with
      | true => rw [cond_true, List.mem_cons, ih, e]; constructor
                · rintro (h | h)
                  · exact absurd h q
                  · exact ⟨h.1, by omega, h.2.2⟩
                · intro h; exact .inr ⟨h.1, by omega, h.2.2⟩
      | false => rw [cond_false, ih, e]; constructor
                 · intro h; exact ⟨h.1, by omega, h.2.2⟩
                 · intro h; exact ⟨h.1, by omega, h.2.2⟩
theorem lstF_congr {p q : Nat → Bool} : ∀ {m t : Nat}, (∀ i, t ≤ i → i < t + m → p i = q i) → lstF p m t = lstF q m t
 | 0, t, _ => rfl
 | m + 1, t, h => by rw [lstF, lstF, h t (by omega) (by omega), lstF_congr fun i a b => h i (by omega) (by omega)]
theorem cnt_shift (p : Nat → Bool) : ∀ n, cnt p (n + 1) = (p 0).toNat + cnt (fun i => p (i + 1)) n
 | 0 => by simp [cnt]
 | n + 1 => by rw [cnt, cnt_shift p n]; simp only [cnt]; omega
theorem lstF_cnt (p : Nat → Bool) : ∀ m t, (lstF p m t).length = cnt (fun i => p (t + i)) m
 | 0, t => rfl
 | m + 1, t => by
  rw [lstF, cnt_shift]
  have ih := lstF_cnt p m (t + 1)
  have e : cnt (fun i => p (t + (i + 1))) m = cnt (fun i => p (t + 1 + i)) m := cnt_congr fun i _ => by rw [show t + (i + 1) = t + 1 + i by omega]
  rw [e, ← ih, Nat.add_zero]
  cases p t <;> simp <;> omega
theorem greedy_gr {l : List Od} (h : Ok6 l) : Ix l.length (greedy l []) ∧ Gr (dyl l) (fnl l) l.length (fun _ => false) (mem (greedy l [])) := by
 have := greedy_ix (l := l) (s := []) (fun o ho => (h.all o ho).1.1) ⟨(fun _ h => by cases h), List.Pairwise.nil⟩ (Pos.empty.sub fun _ _ h => by cases h)
 exact this
theorem greedy_best {l : List Od} (h : Ok6 l) : BestS l (mem (greedy l [])) := by
 obtain ⟨_, hg⟩ := greedy_gr h
 obtain ⟨o1, T, o2, o3⟩ := leastO_ok h
 refine ⟨hg.pos, ?_⟩
 have h1 := o1 _ hg.pos
 have h2 := hg.best (M := 10000) (fun i hi => h.fn hi) o2 (fun i _ h => by cases h)
 omega
end Go.Proofs.YtjcnfpfldocpdaaGreatDoor
