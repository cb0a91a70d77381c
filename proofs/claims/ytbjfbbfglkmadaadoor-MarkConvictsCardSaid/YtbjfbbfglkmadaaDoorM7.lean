/-
  Who is guilty, who is nearest: what the program computes.
-/
import Derived.Test.YtbjfbbfglkmadaaDoorM5
namespace Go.Proofs.YtbjfbbfglkmadaaDoor
open Go.RowKit
set_option linter.unusedVariables false

theorem eachF_of {β : Type} {f : β → List β → Option Unit} : ∀ (r pre : List β) (p : β), (∀ u q v, pre ++ p :: r = u ++ q :: v → f q (u ++ v) = some ()) → eachF f pre p r = some ()
  | [], pre, p, h => by
    have := h pre p [] rfl
    rw [List.append_nil] at this
    exact this
  | x :: r, pre, p, h => by
    rw [eachF, h pre p (x :: r) rfl, eachF_of r (pre ++ [p]) x fun u q v e => h u q v (by rw [← e, List.append_assoc]; rfl)]
    rfl
theorem eachK_of {β : Type} {f : β → List β → Option Unit} {x0 : Option Unit} : ∀ (l : List β), (l = [] → x0 = some ()) → (∀ u q v, l = u ++ q :: v → f q (u ++ v) = some ()) → eachK l x0 f = some ()
  | [], h, _ => h rfl
  | p :: r, _, h => eachF_of r [] p fun u q v e => h u q v e
theorem beqI (x y : Int) : DT.beq (.int .i64) x y = decide (x = y) := by
  show (x == y) = _
  rw [beqDec]
abbrev Mp := List (Int × Int)
abbrev mputI (o : Mp) (x y : Int) : Mp := mput (kt := .int .i64) (vt := .int .i64) o x y
abbrev mgetI (o : Mp) (x : Int) : Option Int := mget (kt := .int .i64) (vt := .int .i64) o x
theorem mputI_cons (p : Int × Int) (r : Mp) (x y : Int) : mputI (p :: r) x y = cond (decide (x = p.1)) ((x, y) :: r) (p :: mputI r x y) := by
  show cond (DT.beq (.int .i64) x p.1) _ _ = _
  rw [beqI]
theorem mgetI_cons (p : Int × Int) (r : Mp) (x : Int) : mgetI (p :: r) x = cond (decide (x = p.1)) (some p.2) (mgetI r x) := by
  show cond (DT.beq (.int .i64) x p.1) _ _ = _
  rw [beqI]
theorem mput_mem (x y : Int) : ∀ {o : Mp}, (o.map (·.1)).Nodup → ((mputI o x y).map (·.1)).Nodup ∧ ∀ k v, (k, v) ∈ mputI o x y ↔ (k = x ∧ v = y) ∨ (k ≠ x ∧ (k, v) ∈ o)
  | [], _ => by
    refine ⟨List.pairwise_singleton _ _, fun k v => ?_⟩
    show (k, v) ∈ [(x, y)] ↔ _
    simp
  | p :: r, h => by
    rw [List.map_cons, List.nodup_cons] at h
    obtain ⟨h1, h2⟩ := h
    rw [mputI_cons]
    by_cases e : x = p.1
    · rw [decide_eq_true e, cond_true]
      refine ⟨by rw [List.map_cons, List.nodup_cons]; exact ⟨by rw [e]; exact h1, h2⟩, fun k v => ?_⟩
      have hx : ∀ v, (x, v) ∉ r := fun v hv => h1 (List.mem_map.2 ⟨(x, v), hv, e⟩)
      obtain ⟨p1, p2⟩ := p
      simp only [List.mem_cons, Prod.mk.injEq] at e ⊢
      constructor
      · rintro (h | h)
        · exact .inl h
        · exact .inr ⟨fun q => hx v (q ▸ h), .inr h⟩
      · rintro (h | ⟨h, h' | h'⟩)
        · exact .inl h
        · exact absurd (h'.1.trans e.symm) h
        · exact .inr h'
    · rw [decide_eq_false e, cond_false]
      obtain ⟨i1, i2⟩ := mput_mem x y h2
      refine ⟨by
        rw [List.map_cons, List.nodup_cons]
        refine ⟨fun hm => ?_, i1⟩
        obtain ⟨⟨k, v⟩, hq, hk⟩ := List.mem_map.1 hm
        rcases (i2 k v).1 hq with h | h
        · exact e (h.1 ▸ hk)
        · exact h1 (List.mem_map.2 ⟨(k, v), h.2, hk⟩), fun k v => ?_⟩
      obtain ⟨p1, p2⟩ := p
      rw [List.mem_cons, i2, List.mem_cons, Prod.mk.injEq]
      constructor
      · rintro (h | h | h)
        · exact .inr ⟨fun q => e (q ▸ h.1), .inl h⟩
        · exact .inl h
        · exact .inr ⟨h.1, .inr h.2⟩
      · rintro (h | ⟨h, h' | h'⟩)
        · exact .inr (.inl h)
        · exact .inl h'
        · exact .inr (.inr ⟨h, h'⟩)
theorem mget_mem (x : Int) : ∀ (o : Mp), (match mgetI o x with | some v => (x, v) ∈ o | none => ∀ v, (x, v) ∉ o)
  | [] => fun v hv => by cases hv
  | p :: r => by
    rw [mgetI_cons]
    obtain ⟨p1, p2⟩ := p
    by_cases e : x = p1
    · rw [decide_eq_true e, cond_true, e]; exact List.mem_cons_self
    · rw [decide_eq_false e, cond_false]
      have := mget_mem x r
      cases hm : mgetI r x with
      | some v => rw [hm] at this; exact List.mem_cons_of_mem _ this
      | none =>
        rw [hm] at this
        intro v hv
        rcases List.mem_cons.1 hv with h | h
        · exact e (congrArg Prod.fst h)
        · exact this v h
def Cnt (P : List Int) (o : Mp) : Prop := (o.map (·.1)).Nodup ∧ ∀ k v, (k, v) ∈ o ↔ k ∈ P ∧ v = (P.count k : Int)
theorem Cnt.get {P : List Int} {o : Mp} (h : Cnt P o) (x : Int) : (mgetI o x).getD 0 = (P.count x : Int) := by
  have := mget_mem x o
  cases hm : mgetI o x with
  | some v => rw [hm] at this; exact ((h.2 x v).1 this).2
  | none =>
    rw [hm] at this
    have : x ∉ P := fun hx => this _ ((h.2 x _).2 ⟨hx, rfl⟩)
    rw [List.count_eq_zero.2 this]; rfl
theorem Cnt.put {P : List Int} {o : Mp} (h : Cnt P o) (x : Int) : Cnt (P ++ [x]) (mputI o x ((P.count x : Int) + 1)) := by
  obtain ⟨h1, h2⟩ := mput_mem x ((P.count x : Int) + 1) h.1
  refine ⟨h1, fun k v => ?_⟩
  rw [h2, h.2, List.count_append, List.mem_append, List.mem_singleton]
  by_cases e : k = x
  · subst e
    rw [show List.count k [k] = 1 by simp]
    constructor
    · rintro (h | h)
      · exact ⟨.inr rfl, by have := h.2; omega⟩
      · exact absurd rfl h.1
    · rintro ⟨_, h⟩
      exact .inl ⟨rfl, by omega⟩
  · rw [show List.count k [x] = 0 from List.count_eq_zero.2 (by simpa using e)]
    constructor
    · rintro (h | ⟨_, h⟩)
      · exact absurd h.1 e
      · exact ⟨.inl h.1, by have := h.2; omega⟩
    · rintro ⟨h | h, h'⟩
      · exact .inr ⟨e, h, by omega⟩
      · exact absurd h e
theorem srt_congr {a b : List Int} (h : a.Perm b) : srt a = srt b :=
  List.Perm.eq_of_pairwise (le := fun a b => decide (a ≤ b) = true) (fun a b _ _ h1 h2 => by simp only [decide_eq_true_eq] at h1 h2; omega) (srt_sorted a) (srt_sorted b) ((srt_perm a).trans (h.trans (srt_perm b).symm))
theorem srt_rise {a : List Int} (h : a.Pairwise (· < ·)) : srt a = a :=
  List.Perm.eq_of_pairwise (le := fun a b => decide (a ≤ b) = true) (fun a b _ _ h1 h2 => by simp only [decide_eq_true_eq] at h1 h2; omega) (srt_sorted a) (h.imp fun h => decide_eq_true (by omega)) (srt_perm a)
def glF (fl : List Int) (L N t : Nat) : List Int := ((List.range' t (N - t)).map fun (i : Nat) => (i : Int)).filter fun i => decide (fl.count i = L)
def gl (c : Cd) (w : List Int) (z : Int) : List Int := glF (lnL c w z).flatten (lnL c w z).length c.2.1.length 0
theorem glF_mem {fl : List Int} {L N : Nat} {i : Int} : i ∈ glF fl L N 0 ↔ (0 ≤ i ∧ i < N) ∧ fl.count i = L := by
  simp only [glF, List.mem_filter, List.mem_map, List.mem_range'_1, decide_eq_true_eq]
  constructor
  · rintro ⟨⟨j, hj, rfl⟩, h⟩; exact ⟨by omega, h⟩
  · rintro ⟨h1, h⟩; exact ⟨⟨i.toNat, by omega, by omega⟩, h⟩
theorem glF_rise (fl : List Int) (L N t : Nat) : (glF fl L N t).Pairwise (· < ·) := by
  unfold glF
  refine List.Pairwise.filter _ (List.pairwise_map.2 ((List.pairwise_lt_range' (s := t) (n := N - t)).imp fun h => by omega))
theorem lnL_mem {c : Cd} {w x : List Int} {z : Int} (h : x ∈ lnL c w z) : isCo c.2.1.length z.toNat x := co_mem.1 (List.mem_filter.1 h).1
theorem lnL_len {c : Cd} {w : List Int} {z : Int} (hn : c.2.1.length ≤ 10) : (lnL c w z).length ≤ 1024 := Nat.le_trans (List.length_filter_le _ _) (co_len hn)
theorem flat_len : ∀ {l : List (List Int)}, (∀ x ∈ l, x.length ≤ 10) → l.flatten.length ≤ 10 * l.length
  | [], _ => by simp
  | x :: r, h => by
    have := flat_len (l := r) fun y hy => h y (by simp [hy])
    have := h x (by simp)
    rw [List.flatten_cons, List.length_append, List.length_cons]; omega
theorem B73_of {l : List (List Int)} (h : l.length ≤ 1024) (hx : ∀ x ∈ l, x.length ≤ 10) : B73 l = some l.flatten := if_pos ⟨by omega, fun x h => by have := hx x h; omega⟩
def guV (c : Cd) (w : List Int) (z : Int) : List Int × Int := cond (decide (cwE c w = 0)) (cond (decide (1 ≤ z ∧ z ≤ 10)) (cond (decide ((lnL c w z).length = 0)) ([], 14) (gl c w z, 0)) ([], 4)) ([], cwE c w)
theorem beqLen (v : Int) (n : Nat) : (v == (n : Int)) = decide (v = (n : Int)) := beqDec _ _
def flt (L : Nat) (o : Mp) : List Int := (o.filter fun p => decide (p.2 = (L : Int))).map (·.1)
end Go.Proofs.YtbjfbbfglkmadaaDoor
