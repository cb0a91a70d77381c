/-
 Steps and first forms of logs that mean the same.
-/
import Derived.Test.YtmpbbkldopfkpaaDoorL14
import Derived.Test.YtmpbbkldopfkpaaDoorL10
namespace Go.Proofs.YtmpbbkldopfkpaaDoor
open Go.RowKit
set_option linter.unusedVariables false

section
variable {D : UInt8 → UInt8 → Bool}

theorem st_uniq {log : Wd} {f : Nat → Nat} (h1 : ∀ i k, k < i → bdd D log i k = true → f k + 1 ≤ f i) (h2 : ∀ i, f i = 0 ∨ ∃ k, k < i ∧ bdd D log i k = true ∧ f i = f k + 1) (i : Nat) : f i = st D log i := by
 induction i using Nat.strongRecOn with
 | _ i ih =>
  apply Nat.le_antisymm
  ·rcases h2 i with e | ⟨k, hk, hb, e⟩
   ·omega
   ·rw [e, ih k hk]; exact st_ge hk hb
  ·rcases st_at (D := D) (log := log) i with e | ⟨k, hk, hb, e⟩
   ·omega
   ·rw [e, ← ih k hk]; exact h1 i k hk hb
def sw (p i : Nat) : Nat := if i = p then p + 1 else if i = p + 1 then p else i
theorem sw_sw (p i : Nat) : sw p (sw p i) = i := by
 unfold sw
 split <;> split <;> (try split) <;> omega
theorem sw_lt {p i k : Nat} (h : k < i) (hn : ¬ (k = p ∧ i = p + 1)) : sw p k < sw p i := by
 unfold sw
 split <;> split <;> (try split) <;> (try split) <;> omega
theorem sw_get (u v : Wd) (x y : UInt8) (i : Nat) : (u ++ y :: x :: v).getD (sw u.length i) 0 = (u ++ x :: y :: v).getD i 0 := by
 unfold sw
 simp only [List.getD_eq_getElem?_getD]
 by_cases h1 : i = u.length
 ·subst h1; rw [if_pos rfl, List.getElem?_append_right (by omega), List.getElem?_append_right (by omega)]
  simp
 ·rw [if_neg h1]
  by_cases h2 : i = u.length + 1
  ·subst h2; rw [if_pos rfl, List.getElem?_append_right (by omega), List.getElem?_append_right (by omega)]
   simp
  ·rw [if_neg h2]
   by_cases h3 : i < u.length
   ·rw [List.getElem?_append_left h3, List.getElem?_append_left h3]
   ·rw [List.getElem?_append_right (by omega), List.getElem?_append_right (by omega)]
    obtain ⟨j, hj⟩ : ∃ j, i - u.length = j + 2 := ⟨i - u.length - 2, by omega⟩
    rw [hj]; rfl
theorem st_swap (hB : Bnd D) {u v : Wd} {x y : UInt8} (hxy : D x y = false) (i : Nat) : st D (u ++ y :: x :: v) (sw u.length i) = st D (u ++ x :: y :: v) i := by
 have hb : ∀ i k, bdd D (u ++ y :: x :: v) (sw u.length i) (sw u.length k) = bdd D (u ++ x :: y :: v) i k := fun i k => by
  unfold bdd; rw [sw_get, sw_get]
 have hx : ∀ (a b : UInt8), D a b = false → bdd D (u ++ a :: b :: v) (u.length + 1) u.length = false := fun a b h => by
  unfold bdd
  simpa [List.getD_eq_getElem?_getD, List.getElem?_append_right] using h
 refine st_uniq (D := D) (log := u ++ x :: y :: v) (f := fun i => st D (u ++ y :: x :: v) (sw u.length i)) (fun i k hk hbd => ?_) (fun i => ?_) i
 ·refine st_ge (sw_lt hk fun ⟨e1, e2⟩ => ?_) ((hb i k).trans hbd)
  rw [e1, e2, hx x y hxy] at hbd; cases hbd
 ·rcases st_at (D := D) (log := u ++ y :: x :: v) (sw u.length i) with e | ⟨k, hk, hbd, e⟩
  ·exact .inl e
  ·refine .inr ⟨sw u.length k, ?_, ?_, ?_⟩
   ·have := sw_lt (p := u.length) hk fun ⟨e1, e2⟩ => by
     rw [e1, e2, hx y x (by rw [hB.symm]; exact hxy)] at hbd; cases hbd
    rwa [sw_sw] at this
   ·rw [← hb, sw_sw]; exact hbd
   ·simp only [sw_sw]; exact e
theorem mx_of {log : Wd} {M : Nat} : ∀ {m : Nat}, (∀ i, i < m → st D log i + 1 ≤ M) → mx D log m ≤ M
 | 0, _ => Nat.zero_le _
 | m + 1, h => by
  have h1 := mx_of (m := m) (M := M) fun i hi => h i (by omega)
  have h2 := h m (by omega)
  rw [mx]; omega
theorem sw_range (p n : Nat) (hp : p + 1 < n) : List.Perm ((List.range n).map (sw p)) (List.range n) := by
 have hs : ∀ i, i < n → sw p i < n := fun i hi => by unfold sw; split <;> (try split) <;> omega
 refine (List.perm_ext_iff_of_nodup ?_ List.nodup_range).2 fun i => ?_
 ·refine List.pairwise_map.2 (List.nodup_range.imp fun {a b} h e => h ?_)
  have := congrArg (sw p) e
  rwa [sw_sw, sw_sw] at this
 ·rw [List.mem_map, List.mem_range]
  exact ⟨fun ⟨j, hj, e⟩ => e ▸ hs j (List.mem_range.1 hj), fun h => ⟨sw p i, List.mem_range.2 (hs i h), sw_sw p i⟩⟩
theorem csW_eq {a b : Wd} (h : List.Perm a b) : csW a = csW b := by
 have e : ∀ (l : Wd) (x : UInt8), l.filter (· == x) = List.replicate (l.count x) x := fun l x => List.filter_beq x
 unfold csW
 congr 1
 funext x
 rw [e, e, h.count_eq]
theorem ws_swap (hB : Bnd D) {u v : Wd} {x y : UInt8} (hxy : D x y = false) (t : Nat) : List.Perm (ws D (u ++ y :: x :: v) t) (ws D (u ++ x :: y :: v) t) := by
 have hl : (u ++ y :: x :: v).length = (u ++ x :: y :: v).length := by simp
 have hp := sw_range u.length (u ++ x :: y :: v).length (by simp)
 have h1 := ((hp.filter fun i => decide (st D (u ++ y :: x :: v) i = t)).map fun i => (u ++ y :: x :: v).getD i 0).symm
 unfold ws
 rw [hl]
 refine h1.trans (List.Perm.of_eq ?_)
 rw [List.filter_map, List.map_map]
 have e1 : ((fun i => decide (st D (u ++ y :: x :: v) i = t)) ∘ sw u.length) = fun i => decide (st D (u ++ x :: y :: v) i = t) := by
  funext i
  simp only [Function.comp, st_swap hB hxy]
 have e2 : ((fun i => (u ++ y :: x :: v).getD i 0) ∘ sw u.length) = fun i => (u ++ x :: y :: v).getD i 0 := by
  funext i
  simp only [Function.comp, sw_get]
 rw [e1, e2]
theorem stW_swap (hB : Bnd D) {u v : Wd} {x y : UInt8} (hxy : D x y = false) : stW D (u ++ y :: x :: v) = stW D (u ++ x :: y :: v) := by
 have hl : (u ++ y :: x :: v).length = (u ++ x :: y :: v).length := by simp
 have hs : ∀ i, i < (u ++ x :: y :: v).length → sw u.length i < (u ++ x :: y :: v).length := fun i hi => by
  have : u.length + 1 < (u ++ x :: y :: v).length := by simp
  unfold sw; split <;> (try split) <;> omega
 have hm : mx D (u ++ y :: x :: v) (u ++ y :: x :: v).length = mx D (u ++ x :: y :: v) (u ++ x :: y :: v).length := by
  rw [hl]
  apply Nat.le_antisymm
  ·refine mx_of fun i hi => ?_
   have := st_swap (D := D) (u := u) (v := v) hB hxy (sw u.length i)
   rw [sw_sw] at this
   rw [this]
   exact mx_gt (hs i hi)
  ·refine mx_of fun i hi => ?_
   rw [← st_swap hB hxy]
   exact mx_gt (hs i hi)
 unfold stW
 rw [hm]
 exact List.map_congr_left fun t _ => csW_eq (ws_swap hB hxy t)
theorem stW_eqv (hB : Bnd D) {s t : Wd} (h : Eqv D t s) : stW D t = stW D s :=
 reach hB t s (fun r => stW D r = stW D s) (fun u v x y hxy hk => (stW_swap hB hxy).trans hk) h rfl
theorem ws_mem {log : Wd} {t : Nat} {b : UInt8} : b ∈ ws D log t ↔ ∃ i, i < log.length ∧ st D log i = t ∧ log.getD i 0 = b := by
 unfold ws
 rw [List.mem_map]
 constructor
 ·rintro ⟨i, hi, e⟩
  rw [List.mem_filter, List.mem_range] at hi
  exact ⟨i, hi.1, of_decide_eq_true hi.2, e⟩
 ·rintro ⟨i, h1, h2, h3⟩
  exact ⟨i, List.mem_filter.2 ⟨List.mem_range.2 h1, decide_eq_true h2⟩, h3⟩
theorem ws_isL {log : Wd} (hL : ∀ b ∈ log, isL b) (t : Nat) : ∀ b ∈ ws D log t, isL b := fun b hb => by
 obtain ⟨i, h1, _, rfl⟩ := ws_mem.1 hb
 exact hL _ (getD_mem h1)
theorem ws_free {log : Wd} (t : Nat) : (ws D log t).Pairwise fun a b => D a b = false := by
 unfold ws
 rw [List.pairwise_map]
 refine List.Pairwise.imp_of_mem (R := fun i j => i < j) (fun {i j} hi hj hij => ?_) (List.pairwise_lt_range.filter _)
 rw [List.mem_filter] at hi hj
 have e1 := of_decide_eq_true hi.2
 have e2 := of_decide_eq_true hj.2
 cases h : D (log.getD i 0) (log.getD j 0) with
 | false => rfl
 | true =>
  have := st_ge (D := D) (log := log) hij h
  omega
theorem csW_free (hB : Bnd D) {log : Wd} (hL : ∀ b ∈ log, isL b) (t : Nat) : (csW (ws D log t)).Pairwise fun a b => D a b = false :=
 ((csW_perm (ws_isL hL t)).pairwise_iff fun {x y} h => by rw [hB.symm]; exact h).2 (ws_free t)
theorem perm_eqv (hB : Bnd D) {a b : Wd} (hp : List.Perm a b) (hf : a.Pairwise fun x y => D x y = false) : Eqv D a b := fun x y hxy => by
 have h1 : List.Perm (prj x y a) (prj x y b) := hp.filter _
 have h2 : (prj x y a).Pairwise fun x y => D x y = false := hf.filter _
 have hm : ∀ z ∈ prj x y a, z = x ∨ z = y := fun z hz => (mem_prj.1 hz).2
 match hq : prj x y a with
 | [] => rw [hq] at h1; exact (List.nil_perm.1 h1).symm
 | [p] => rw [hq] at h1; exact List.singleton_perm.1 h1
 | p :: q :: r =>
  exfalso
  rw [hq] at h2 hm
  have hpq := (List.pairwise_cons.1 h2).1 q (by simp)
  have e1 := hm p (by simp)
  have e2 := hm q (by simp)
  rcases e1 with rfl | rfl <;> rcases e2 with rfl | rfl
  ·rw [hB.refl] at hpq; cases hpq
  ·rw [hxy] at hpq; cases hpq
  ·rw [hB.symm, hxy] at hpq; cases hpq
  ·rw [hB.refl] at hpq; cases hpq
def tlW (D : UInt8 → UInt8 → Bool) (log : Wd) (t : Nat) : Wd := ((List.range log.length).filter fun i => decide (t ≤ st D log i)).map fun i => log.getD i 0
theorem tlW_zero (log : Wd) : tlW D log 0 = log := by
 unfold tlW
 have : (List.range log.length).filter (fun i => decide (0 ≤ st D log i)) = List.range log.length := List.filter_eq_self.2 fun i _ => decide_eq_true (Nat.zero_le _)
 rw [this, ← take_range log (Nat.le_refl _), List.take_length]
theorem tlW_step (hB : Bnd D) (log : Wd) (t : Nat) : Eqv D (tlW D log t) (ws D log t ++ tlW D log (t + 1)) := by
 have h := part_eqv hB (((List.range log.length).filter fun i => decide (t ≤ st D log i)).map fun i => (log.getD i 0, decide (t < st D log i))) (by
  rw [List.pairwise_map]
  refine List.Pairwise.imp_of_mem (R := fun i j => i < j) (fun {i j} hi hj hij h1 h2 => ?_) (List.pairwise_lt_range.filter _)
  have := st_ge (D := D) (log := log) hij h2
  have := of_decide_eq_true h1
  exact decide_eq_true (by omega))
 have e1 : (((List.range log.length).filter fun i => decide (t ≤ st D log i)).map fun i => (log.getD i 0, decide (t < st D log i))).map (·.1) = tlW D log t := by
  rw [List.map_map]; rfl
 have e2 : ((((List.range log.length).filter fun i => decide (t ≤ st D log i)).map fun i => (log.getD i 0, decide (t < st D log i))).filter fun p => !p.2).map (·.1) = ws D log t := by
  rw [List.filter_map, List.map_map, List.filter_filter]
  unfold ws
  have : (List.range log.length).filter (fun i => ((fun p => !p.2) ∘ fun i => (log.getD i 0, decide (t < st D log i))) i && decide (t ≤ st D log i)) = (List.range log.length).filter fun i => decide (st D log i = t) := List.filter_congr fun i _ => by
   show (!decide (t < st D log i) && decide (t ≤ st D log i)) = _
   by_cases h1 : t < st D log i
   ·rw [decide_eq_true h1, Bool.not_true, Bool.false_and]; exact (decide_eq_false (by omega)).symm
   ·rw [decide_eq_false h1]
    by_cases h2 : st D log i = t
    ·rw [decide_eq_true h2, decide_eq_true (by omega)]; rfl
    ·rw [decide_eq_false h2, decide_eq_false (by omega)]; rfl
  rw [this]; rfl
 have e3 : ((((List.range log.length).filter fun i => decide (t ≤ st D log i)).map fun i => (log.getD i 0, decide (t < st D log i))).filter fun p => p.2).map (·.1) = tlW D log (t + 1) := by
  rw [List.filter_map, List.map_map, List.filter_filter]
  unfold tlW
  have : (List.range log.length).filter (fun i => ((fun p => p.2) ∘ fun i => (log.getD i 0, decide (t < st D log i))) i && decide (t ≤ st D log i)) = (List.range log.length).filter fun i => decide (t + 1 ≤ st D log i) := List.filter_congr fun i _ => by
   show (decide (t < st D log i) && decide (t ≤ st D log i)) = _
   by_cases h1 : t < st D log i
   ·rw [decide_eq_true h1, decide_eq_true (show t ≤ st D log i by omega), decide_eq_true (show t + 1 ≤ st D log i by omega)]; rfl
   ·rw [decide_eq_false h1, Bool.false_and]; exact (decide_eq_false (by omega)).symm
  rw [this]; rfl
 rw [e1, e2, e3] at h
 exact h
theorem tlW_end {log : Wd} {t : Nat} (h : mx D log log.length ≤ t) : tlW D log t = [] := by
 unfold tlW
 have : (List.range log.length).filter (fun i => decide (t ≤ st D log i)) = [] := List.filter_eq_nil_iff.2 fun i hi => by
  have := mx_gt (D := D) (log := log) (List.mem_range.1 hi)
  simp only [decide_eq_true_eq]; omega
 rw [this]; rfl
theorem steps_eqv (hB : Bnd D) {log : Wd} (hL : ∀ b ∈ log, isL b) : ∀ (m t : Nat), mx D log log.length ≤ m + t → Eqv D (tlW D log t) ((List.range m).flatMap fun i => csW (ws D log (i + t)))
 | 0, t, h => by
  rw [tlW_end (by omega)]
  exact Eqv.refl _
 | m + 1, t, h => by
  have ih := steps_eqv hB hL m (t + 1) (by omega)
  have e : ((List.range (m + 1)).flatMap fun i => csW (ws D log (i + t))) = csW (ws D log t) ++ (List.range m).flatMap fun i => csW (ws D log (i + (t + 1))) := by
   rw [List.range_succ_eq_map, List.flatMap_cons, List.flatMap_map, Nat.zero_add]
   congr 2
   funext i
   rw [show i.succ + t = i + (t + 1) by omega]
  rw [e]
  exact (tlW_step hB log t).trans (Eqv.append (perm_eqv hB (csW_perm (ws_isL hL t)) (csW_free hB hL t)).symm ih)
theorem stW_eqv_log (hB : Bnd D) {log : Wd} (hL : ∀ b ∈ log, isL b) : Eqv D (stW D log).flatten log := by
 have h := steps_eqv hB hL (mx D log log.length) 0 (by omega)
 rw [tlW_zero] at h
 have e : (stW D log).flatten = (List.range (mx D log log.length)).flatMap fun i => csW (ws D log (i + 0)) := by
  unfold stW; rw [List.flatMap_def]; rfl
 rw [e]; exact h.symm
theorem st_below {log : Wd} : ∀ (n i : Nat), st D log i = n → ∀ t, t ≤ n → ∃ k, k ≤ i ∧ st D log k = t
 | 0, i, h, t, ht => ⟨i, Nat.le_refl _, by omega⟩
 | n + 1, i, h, t, ht => by
  by_cases e : t = n + 1
  ·exact ⟨i, Nat.le_refl _, by omega⟩
  ·rcases st_at (D := D) (log := log) i with e1 | ⟨k, hk, _, e1⟩
   ·omega
   ·obtain ⟨k', h1, h2⟩ := st_below n k (show st D log k = n by omega) t (by omega)
    exact ⟨k', by omega, h2⟩
theorem ws_some {log : Wd} {t : Nat} (ht : t < mx D log log.length) : ∃ b, b ∈ ws D log t := by
 obtain ⟨i, h1, h2⟩ := mx_at (D := D) (log := log) (m := log.length) (by omega)
 obtain ⟨k, h3, h4⟩ := st_below (D := D) (log := log) (st D log i) i rfl t (by omega)
 exact ⟨_, ws_mem.2 ⟨k, by omega, h4, rfl⟩⟩
theorem ws_held {log : Wd} {t : Nat} {b : UInt8} (hb : b ∈ ws D log (t + 1)) : ∃ c, c ∈ ws D log t ∧ D c b = true := by
 obtain ⟨i, h1, h2, rfl⟩ := ws_mem.1 hb
 rcases st_at (D := D) (log := log) i with e | ⟨k, hk, h3, h4⟩
 ·omega
 ·refine ⟨log.getD k 0, ws_mem.2 ⟨k, by omega, ?_, rfl⟩, h3⟩
  rw [h2] at h4; exact (Nat.succ.inj h4).symm
def lexLe : Wd → Wd → Prop
 | [], _ => True
 | _ :: _, [] => False
 | x :: a, y :: b => x.toNat < y.toNat ∨ (x = y ∧ lexLe a b)
theorem pick_first {l : Wd} : ∀ {ks : Wd} {x : UInt8} {l' : Wd}, ks.Pairwise (fun x y => x.toNat < y.toNat) → pick D ks l = some (x, l') → ∀ y l2, y ∈ ks → tk D y l = some l2 → x.toNat ≤ y.toNat
 | [], x, l', _, h, _, _, hy, _ => by cases hy
 | k :: ks, x, l', hp, h, y, l2, hy, ht => by
  obtain ⟨p1, p2⟩ := List.pairwise_cons.1 hp
  unfold pick at h
  rw [List.findSome?_cons] at h
  cases hk : tk D k l with
  | some l3 =>
   rw [hk] at h
   simp only [Option.map_some, Option.some.injEq, Prod.mk.injEq] at h
   rw [← h.1]
   rcases List.mem_cons.1 hy with rfl | hy
   ·exact Nat.le_refl _
   ·exact Nat.le_of_lt (p1 y hy)
  | none =>
   rw [hk] at h
   rcases List.mem_cons.1 hy with rfl | hy
   ·rw [hk] at ht; cases ht
   ·exact pick_first p2 h y l2 hy ht
theorem nf_least (hB : Bnd D) : ∀ (n : Nat) (l c : Wd), l.length = n → (∀ b ∈ l, b ∈ abc) → Eqv D c l → lexLe (nf D abc n l) c
 | 0, l, c, h, _, hE => by
  exact trivial
 | n + 1, [], c, h, _, _ => by simp at h
 | n + 1, b :: r, c, h, hL, hE => by
  cases c with
  | nil => have := hE.length hB; simp at this
  | cons y c =>
   obtain ⟨l2, ht, hE2⟩ := hE.tk hB
   obtain ⟨x, l', hp⟩ := pick_any (D := D) (l := r) (hL b (by simp))
   obtain ⟨_, htx⟩ := pick_some hp
   have hl := tk_len htx
   have hle := pick_first (by decide) hp y l2 (hL y (tk_mem ht).1) ht
   simp only [nf, hp]
   by_cases hxy : x = y
   ·subst hxy
    rw [htx] at ht; obtain rfl := Option.some.inj ht
    exact .inr ⟨rfl, nf_least hB n l' c (by omega) (fun z hz => hL z ((tk_mem htx).2 z hz)) hE2⟩
   ·refine .inl (Nat.lt_of_le_of_ne hle fun e => hxy (UInt8.toNat_inj.1 e))
theorem lexLe_anti : ∀ {a b : Wd}, lexLe a b → lexLe b a → a = b
 | [], [], _, _ => rfl
 | [], _ :: _, _, h => h.elim
 | _ :: _, [], h, _ => h.elim
 | x :: a, y :: b, h, g => by
  rcases h with h | ⟨rfl, h⟩
  ·rcases g with g | ⟨rfl, g⟩
   ·omega
   ·omega
  ·rcases g with g | ⟨_, g⟩
   ·omega
   ·rw [lexLe_anti h g]
end

theorem nfo_same {o : Of} (h0 : errO o = 0) {a b : Wd} (wa : Ls o a) (wb : Ls o b) (h : Eqv (Do o) a b) : nfo o a = nfo o b :=
 lexLe_anti (nf_least (Do_bnd h0) _ a _ rfl (wa.abc h0) ((nfo_eqv h0 wb).trans h.symm)) (nf_least (Do_bnd h0) _ b _ rfl (wb.abc h0) ((nfo_eqv h0 wa).trans h))
end Go.Proofs.YtmpbbkldopfkpaaDoor
