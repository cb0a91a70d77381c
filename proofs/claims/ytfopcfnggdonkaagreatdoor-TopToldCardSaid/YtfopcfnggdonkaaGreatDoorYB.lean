/-
 Lifting Go functions to plain Lean functions, parts I J K L M Ma Mb Mc.
-/
import Derived.Test.YtfopcfnggdonkaaGreatDoorYA
import Derived.Maps.RangeRun
import Derived.Lib.ConvBytes
import Derived.Lib.OthersKept
import Derived.Laws.BytesString
import Derived.Laws.RangeString
import Derived.Lib.UnsafeStr
namespace Go.Proofs.YtfopcfnggdonkaaGreatDoor
open Go.RowKit
set_option linter.unusedVariables false
section
theorem TC (off : Nat) : ∀ (l : List Value) (i : Nat) (cells : Array Value), off + i + l.length <= cells.size ->
  ((l.zipIdx i).foldl (fun cs p => cs.setIfInBounds (off + p.2) p.1) cells).size = cells.size /\
  ∀ q, ((l.zipIdx i).foldl (fun cs p => cs.setIfInBounds (off + p.2) p.1) cells)[q]? = if off + i <= q /\ q < off + i + l.length then l[q - (off + i)]? else cells[q]?
 | [], i, cells, h => by refine ⟨rfl, fun q => ?_⟩; rw [if_neg (by simp)]; rfl
 | v :: l, i, cells, h => by
  simp only [List.length_cons] at h
  simp only [List.zipIdx_cons, List.foldl_cons]
  obtain ⟨h1, h2⟩ := TC off l (i + 1) (cells.setIfInBounds (off + i) v) (by simp; omega)
  refine ⟨by rw [h1]; simp, fun q => ?_⟩
  rw [h2 q]
  by_cases hq : q = off + i
  ·subst hq
   rw [if_neg (by omega), if_pos (by simp)]
   simp [Array.getElem?_setIfInBounds]
   omega
  ·by_cases hc : off + (i + 1) <= q /\ q < off + (i + 1) + l.length
   ·rw [if_pos hc, if_pos (by simp; omega)]
    have : q - (off + i) = (q - (off + (i + 1))) + 1 := by omega
    rw [this, List.getElem?_cons_succ]
   ·rw [if_neg hc, if_neg (by simp; omega)]
    rw [Array.getElem?_setIfInBounds, if_neg (fun e => hq e.symm)]
def J6 (place : Nat -> Option (Nat × Nat)) : List (Nat × Value) -> Option Value -> Nat -> Option Value
 | [], z, _ => z
 | (i, v) :: r, z, q => J6 place r (match place i with
  | some (off, sz) => if off <= q /\ q < off + sz then v.cells[q - off]? else z
  | none => z) q
theorem aeT (place : Nat -> Option (Nat × Nat)) : ∀ (parts : List (Nat × Value)) (cells : Array Value), (∀ p ∈ parts, ∃ off sz, place p.1 = some (off, sz) /\ p.2.cells.size = sz /\ off + sz <= cells.size) ->
  ∃ cells', Instr.fill place cells parts = some cells' /\ cells'.size = cells.size /\ ∀ q, cells'[q]? = J6 place parts cells[q]? q
 | [], cells, _ => ⟨cells, rfl, rfl, fun q => rfl⟩
 | (i, v) :: r, cells, h => by
  obtain ⟨off, sz, h1, h2, h3⟩ := h (i, v) (by simp)
  simp only at h1 h2
  have hf := TC off v.cells.toList 0 cells (by simpa using (by omega : off + v.cells.size <= cells.size))
  have e : v.cells.zipIdx.foldl (fun cs (c, j) => cs.setIfInBounds (off + j) c) cells = (v.cells.toList.zipIdx 0).foldl (fun cs p => cs.setIfInBounds (off + p.2) p.1) cells := by
   rw [<- Array.foldl_toList, Array.toList_zipIdx]
  obtain ⟨c', h4, h5, h6⟩ := aeT place r ((v.cells.toList.zipIdx 0).foldl (fun cs p => cs.setIfInBounds (off + p.2) p.1) cells) fun p hp => by
   rw [hf.1]; exact h p (by simp [hp])
  refine ⟨c', ?_, h5.trans hf.1, fun q => ?_⟩
  ·simp only [Instr.fill, h1]
   rw [if_neg (by simp; omega), e]
   exact h4
  ·rw [h6 q, hf.2 q]
   simp only [J6, h1]
   congr 1
   simp only [Nat.add_zero, Array.length_toList, Array.getElem?_toList, h2]
theorem aiW (place : Nat -> Option (Nat × Nat)) {q off sz i : Nat} {v : Value} : ∀ (parts : List (Nat × Value)) (z : Option Value), place i = some (off, sz) -> off <= q /\ q < off + sz -> (i, v) ∈ parts ->
  (∀ p ∈ parts, ∀ off' sz', place p.1 = some (off', sz') -> off' <= q /\ q < off' + sz' -> p = (i, v)) -> J6 place parts z q = v.cells[q - off]?
 | [], z, _, _, hm, _ => by simp at hm
 | (j, u) :: r, z, hp, hq, hm, hu => by
  simp only [J6]
  by_cases hr : (i, v) ∈ r
  ·exact aiW place r _ hp hq hr fun p hp' => hu p (by simp [hp'])
  ·have he : (j, u) = (i, v) := by
    rcases List.mem_cons.1 hm with h | h
    ·exact h.symm
    ·exact absurd h hr
   simp only [bJ] at he
   obtain ⟨rfl, rfl⟩ := he
   simp only [hp]
   rw [if_pos hq]
   have : ∀ (r : List (Nat × Value)) (z : Option Value), (∀ p ∈ r, ∀ off' sz', place p.1 = some (off', sz') -> ¬ (off' <= q /\ q < off' + sz')) -> J6 place r z q = z := by
    intro r
    induction r with
    | nil => intro z _; rfl
    | cons p r ih =>
     intro z h
     obtain ⟨j', u'⟩ := p
     simp only [J6]
     rw [ih _ fun p hp => h p (by simp [hp])]
     cases hpl : place j' with
     | none => rfl
     | some os => obtain ⟨o', s'⟩ := os; simp only; rw [if_neg (h (j', u') (by simp) o' s' hpl)]
   refine this r _ fun p hpr off' sz' hpl hc => ?_
   have := hu p (by simp [hpr]) off' sz' hpl hc
   exact hr (this ▸ hpr)
theorem ED {n k i j : Nat} (hi : i < n) (hj : j < k) : i * k + j < n * k := by
 have : (i + 1) * k <= n * k := Nat.mul_le_mul_right k hi
 rw [Nat.add_mul, Nat.one_mul] at this
 omega
theorem div_lt {n k q : Nat} (h : q < n * k) : q / k < n /\ 0 < k /\ q % k < k /\ q / k * k + q % k = q := by
 have hk : 0 < k := Nat.pos_of_ne_zero fun e => by subst e; simp at h
 refine ⟨(Nat.div_lt_iff_lt_mul hk).2 h, hk, Nat.mod_lt _ hk, ?_⟩
 rw [Nat.mul_comm]; exact Nat.div_add_mod q k
structure CL (w : World) (G : Nat -> Prop) (t : DT) (l : List t.den) (cs : List Value) : Prop where
 len : cs.length = l.length * t.size
 el : ∀ i, i < l.length -> ∀ c, c < t.size -> ∃ u, cs[i * t.size + c]? = some u /\ u.oneCell' = true /\ t.cell (l.getD i t.dflt) c w G u
theorem CL.flat {w : World} {G : Nat -> Prop} {t : DT} {l : List t.den} {cs : List Value} (h : CL w G t l cs) : ∀ u ∈ cs, u.oneCell' = true := fun u hu => by
 obtain ⟨q, hq, rfl⟩ := List.getElem_of_mem hu
 rw [h.len] at hq
 obtain ⟨a1, a2, a3, a4⟩ := div_lt hq
 obtain ⟨u, b1, b2, b3⟩ := h.el _ a1 _ a3
 rw [a4] at b1
 rw [List.getElem?_eq_getElem (by rw [h.len]; exact hq)] at b1
 rw [aC b1]; exact b2
theorem FU {α : Type} (l m : List α) (i : Nat) (d : α) : (l ++ m).getD i d = if i < l.length then l.getD i d else m.getD (i - l.length) d := by
 by_cases h : i < l.length
 ·rw [if_pos h]; simp [List.getD, List.getElem?_append_left h]
 ·rw [if_neg h]; simp [List.getD, List.getElem?_append_right (Nat.le_of_not_lt h)]
theorem CL.append {w : World} {G : Nat -> Prop} {t : DT} {l m : List t.den} {cs ds : List Value} (h : CL w G t l cs) (g : CL w G t m ds) : CL w G t (l ++ m) (cs ++ ds) := by
 refine ⟨by rw [List.length_append, List.length_append, h.len, g.len, Nat.add_mul], fun i hi c hc => ?_⟩
 rw [FU]
 by_cases hin : i < l.length
 ·obtain ⟨u, a, b⟩ := h.el i hin c hc
  rw [if_pos hin, List.getElem?_append_left (by rw [h.len]; exact ED hin hc)]
  exact ⟨u, a, b⟩
 ·rw [List.length_append] at hi
  obtain ⟨u, a, b⟩ := g.el (i - l.length) (by omega) c hc
  have hle : l.length * t.size <= i * t.size := Nat.mul_le_mul_right _ (by omega)
  have e : i * t.size + c - cs.length = (i - l.length) * t.size + c := by
   rw [h.len, Nat.sub_mul]; omega
  rw [if_neg hin, List.getElem?_append_right (by rw [h.len]; omega), e]
  exact ⟨u, a, b⟩
theorem CL.mono {w w' : World} {G G' : Nat -> Prop} {t : DT} {l : List t.den} {cs : List Value} (h : CL w G t l cs) (hz : fG w G w' G') : CL w' G' t l cs :=
 ⟨h.len, fun i hi c hc => let ⟨u, a, b, d⟩ := h.el i hi c hc; ⟨u, a, b, DT.iE hz d⟩⟩
theorem NK {α : Type} (l : List α) (a b i : Nat) (d : α) (hb : b <= l.length) (hi : i < b - a) : ((l.take b).drop a).getD i d = l.getD (a + i) d := by
 simp only [List.getD, List.getElem?_drop]
 rw [List.getElem?_take_of_lt (by omega)]
section
variable {P : Program} {TI : Nat -> TD} {c : Cx} {F : Nat -> Prop} {s : TS} {π : Nat -> Pl} {a : Act} {w : World}
theorem CL.of_block {G : Nat -> Prop} {t : DT} {l : List t.den} {cells : Nat -> Option Value} (h : ∀ i, i < l.length -> ∀ c, c < t.size -> ∃ u, cells (i * t.size + c) = some u /\ u.oneCell' = true /\ t.cell (l.getD i t.dflt) c w G u) :
  ∃ cs, CL w G t l cs /\ ∀ q, q < l.length * t.size -> cs[q]? = cells q := by
 refine ⟨(List.range (l.length * t.size)).map fun q => (cells q).getD undef, ⟨by simp, fun i hi c hc => ?_⟩, fun q hq => ?_⟩
 ·obtain ⟨u, a1, a2, a3⟩ := h i hi c hc
  refine ⟨u, ?_, a2, a3⟩
  rw [List.getElem?_map, List.getElem?_range (ED hi hc)]
  simp [a1]
 ·obtain ⟨a1, a2, a3, a4⟩ := div_lt hq
  obtain ⟨u, b1, _⟩ := h _ a1 _ a3
  rw [a4] at b1
  rw [List.getElem?_map, List.getElem?_range hq]
  simp [b1]
theorem src_ok (hm : aI c F π s a w) {x : TV} {v : Value} {t : DT} {l : List t.den} (h : x.data (aA s.ob) = some ⟨t, l⟩) (hv : VR w (Gz F w π (aA s.ob)) π (aA s.ob) x v) :
  ∃ cs p cap, CL w (Gz F w π (aA s.ob)) t l cs /\ v = .slice p l.length cap /\ ∀ w' : World, (∀ b o, w.cell? ⟨b, o, none⟩ ≠ none -> w'.cell? ⟨b, o, none⟩ = w.cell? ⟨b, o, none⟩) -> (Builtin.firstCells t.size l.length v).run P w' = .ok cs.toArray w' := by
 -- from cells at a place
 have key : ∀ (p : Option Addr) (cap : Nat), v = .slice p l.length cap -> (0 < l.length -> ∃ b o, p = some ⟨b, o, none⟩ /\ ∀ i, i < l.length -> ∀ c, c < t.size -> ∃ u, w.cell? ⟨b, o + i * t.size + c, none⟩ = some u /\ u.oneCell' = true /\ t.cell (l.getD i t.dflt) c w (Gz F w π (aA s.ob)) u) -> ∃ cs p cap, CL w (Gz F w π (aA s.ob)) t l cs /\ v = .slice p l.length cap /\ ∀ w' : World, (∀ b o, w.cell? ⟨b, o, none⟩ ≠ none -> w'.cell? ⟨b, o, none⟩ = w.cell? ⟨b, o, none⟩) -> (Builtin.firstCells t.size l.length v).run P w' = .ok cs.toArray w' := fun p cap hv hc => by
  by_cases hn : 0 < l.length
  ·obtain ⟨b, o, rfl, h2⟩ := hc hn
   obtain ⟨cs, h3, h4⟩ := CL.of_block (w := w) (l := l) (cells := fun q => w.cell? ⟨b, o + q, none⟩) (fun i hi c hc => by
    obtain ⟨u, a1, a2, a3⟩ := h2 i hi c hc
    exact ⟨u, by rw [<- a1, Nat.add_assoc], a2, a3⟩)
   refine ⟨cs, _, cap, h3, hv, fun w' hw' => ?_⟩
   subst hv
   refine run_firstCells_some w' t.size l.length ⟨b, o, none⟩ l.length cap _ h3.len fun j u hu => ?_
   rw [add_lit]
   have hj : j < l.length * t.size := by have := (List.getElem?_eq_some_iff.1 hu).1; rw [h3.len] at this; exact this
   have := h4 j hj
   rw [hu] at this
   rw [hw' b (o + j) (by rw [<- this]; simp), <- this]
  ·have h0 : l = [] := List.eq_nil_of_length_eq_zero (by omega)
   subst h0
   refine ⟨[], p, cap, ⟨by simp, fun i hi => by simp at hi⟩, hv, fun w' _ => ?_⟩
   subst hv
   cases p with
   | none => simp [Builtin.firstCells]
   | some p => simp [Builtin.firstCells, loadCells, loadCellsFrom]
 have zK : x.lM (aA s.ob) = some ⟨t, l⟩ -> ∃ cs p cap, CL w (Gz F w π (aA s.ob)) t l cs /\ v = .slice p l.length cap /\ ∀ w' : World, (∀ b o, w.cell? ⟨b, o, none⟩ ≠ none -> w'.cell? ⟨b, o, none⟩ = w.cell? ⟨b, o, none⟩) -> (Builtin.firstCells t.size l.length v).run P w' = .ok cs.toArray w' := fun hf => by
  obtain ⟨p, cap, h1, h2, h3, h4, _, h6⟩ := TV.NH hf hv
  exact key p cap h1 fun hn => let ⟨b, o, a1, _, a3⟩ := h6 hn; ⟨b, o, a1, a3⟩
 cases x with
 | dv u y => exact zK (by cases u <;> exact h)
 | row id =>
  simp only [VR] at hv
  cases ho : aA s.ob id with
  | none => rw [ho] at hv; exact hv.elim
  | some o =>
   rw [ho] at hv
   cases o with
   | dG t' l' => exact zK (by simp only [TV.lM, ho]; simp only [TV.data, ho] at h; exact h)
   | row t' l' =>
    simp only [TV.data, ho, aS, Sigma.mk.injEq] at h
    obtain ⟨rfl, h⟩ := h; obtain rfl := eq_of_heq h
    simp only at hv
    rcases hm.obj id _ ho with ⟨h1, h2⟩ | ⟨g, cur, e, h1, h2, h3, h4, h5, h6⟩
    ·subst h2
     refine key none 0 (by rw [hv, Pl.hdr, h1]; rfl) fun h => by simp at h
    ·refine key _ _ (by rw [hv, Pl.hdr, h1]) fun _ => ⟨g, _, rfl, fun i hi cc hcc => ?_⟩
     obtain ⟨u, b1, b2⟩ := h6 i hi cc hcc
     exact ⟨u, by rw [tH h2]; exact b1, b2⟩
   | _ => simp [TV.data, ho] at h
 | iP id i j =>
  simp only [VR] at hv
  cases ho : aA s.ob id with
  | none => rw [ho] at hv; exact hv.elim
  | some o =>
   rw [ho] at hv
   cases o with
   | row t' l' =>
    simp only [TV.data, ho, aS, Sigma.mk.injEq] at h
    obtain ⟨rfl, h⟩ := h; obtain rfl := eq_of_heq h
    obtain ⟨h1, h2, p, cp, h3, _, _, _, h5⟩ := hv
    have hl : ((l'.take j).drop i).length = j - i := by simp; omega
    refine key p cp (by rw [h3, hl]) fun hn => ?_
    rw [hl] at hn ⊢
    obtain ⟨g, q1, q2⟩ := h5 (by omega)
    refine ⟨g, _, q2, fun k hk cc hcc => ?_⟩
    rcases hm.obj id _ ho with ⟨r1, r2⟩ | ⟨g', cur, e, r1, r2, r3, r4, r5, r6⟩
    ·subst r2; simp at h2; omega
    ·rw [q1] at r1; obtain rfl := aC r1
     obtain ⟨u, b1, b2, b3⟩ := r6 (i + k) (by omega) cc hcc
     refine ⟨u, ?_, b2, ?_⟩
     ·rw [tH r2, <- b1, Nat.add_mul]; congr 1; omega
     ·rw [NK _ _ _ _ _ h2 hk]; exact b3
   | dG t' l' => exact zK (by simp only [TV.lM, ho]; simp only [TV.data, ho] at h; exact h)
   | _ => simp [TV.data, ho] at h
 | _ => simp [TV.data] at h
end
def UF (f : List Value -> Option (List Value)) : Nat -> List Value -> Option (List Value)
 | 0, l => some l
 | n + 1, l => (f l).bind (UF f n)
def yL : (t : DT) -> List Value -> Option (List Value)
 | .unit, l => some l
 | .arr n t, l => UF (yL t) n l
 | .pair a b, l => (yL a l).bind (yL b)
 | t, v :: l => if wP v t then some l else none
 | _, [] => none
def isZero (v : Value) (t : DT) : Bool :=
 if t.agg then (match v with | .agg cs => (yL t cs.toList).map (·.length) == some 0 | _ => false) else wP v t
theorem Ul {v : Value} {t : DT} (h : wP v t = true) {w : World} {G : Nat -> Prop} : t.cell t.dflt 0 w G v := by
 have nil : ∀ (fl : Option Addr -> Nat -> Nat -> Prop) (k : Nat) (f : Nat -> Nat -> CP), fl none 0 0 -> lX fl k 0 f w G (.slice none 0 0) := fun fl k f hf => ⟨none, 0, rfl, Nat.le_refl _, by simp [maxLen], fun _ => rfl, hf, fun h => by omega⟩
 cases t with
 | int k =>
  simp only [wP] at h
  split at h
  ·simp only [bC, fH] at h; obtain ⟨rfl, rfl⟩ := h; rfl
  ·cases h
 | bool =>
  simp only [wP] at h
  split at h
  ·simp only [Bool.not_eq_true'] at h; subst h; rfl
  ·cases h
 | str =>
  simp only [wP] at h
  split at h
  ·rename_i s
   obtain ⟨⟨l⟩⟩ := s
   have : l = [] := by simpa using h
   subst this; rfl
  ·cases h
 | sl t => simp only [wP] at h; split at h <;> first | exact nil _ _ _ trivial | cases h
 | jT t => simp only [wP] at h; split at h <;> first | exact nil _ _ _ rfl | cases h
 | fJ t => simp only [wP] at h; split at h <;> first | rfl | cases h
 | fp t => simp only [wP] at h; split at h <;> first | rfl | cases h
 | _ => simp [wP] at h
theorem amH {w : World} {G : Nat -> Prop} : ∀ {t : DT} {l r : List Value}, t.plain = true -> yL t l = some r -> ∃ m, l = m ++ r /\ m.length = t.size /\ ∀ c, c < t.size -> ∃ u, m[c]? = some u /\ u.oneCell' = true /\ t.cell t.dflt c w G u := by
 intro t
 have one : ∀ {t : DT} {l r : List Value}, t.plain = true -> t.agg = false -> (∀ v l, yL t (v :: l) = if wP v t then some l else none) -> yL t [] = none -> yL t l = some r -> ∃ m, l = m ++ r /\ m.length = t.size /\ ∀ c, c < t.size -> ∃ u, m[c]? = some u /\ u.oneCell' = true /\ t.cell t.dflt c w G u := fun {t l r} hp ha h1 h2 h => by
  cases l with
  | nil => rw [h2] at h; cases h
  | cons v l =>
   rw [h1] at h
   split at h
   ·rename_i hz
    obtain rfl := aC h
    have hs := DT.O5 ha hp
    refine ⟨[v], rfl, by rw [hs]; rfl, fun c hc => ?_⟩
    obtain rfl : c = 0 := by omega
    exact ⟨v, rfl, DT.SG (Ul (w := w) (G := G) hz), Ul hz⟩
   ·cases h
 induction t with
 | unit => intro l r _ h; simp only [yL, aS] at h; subst h; exact ⟨[], rfl, rfl, fun c hc => by simp [DT.size] at hc⟩
 | int k => intro l r hp h; exact one hp rfl (fun _ _ => rfl) rfl h
 | bool => intro l r hp h; exact one hp rfl (fun _ _ => rfl) rfl h
 | str => intro l r hp h; exact one hp rfl (fun _ _ => rfl) rfl h
 | sl t _ => intro l r hp h; exact one hp rfl (fun _ _ => rfl) rfl h
 | jT t _ => intro l r hp h; exact one hp rfl (fun _ _ => rfl) rfl h
 | fJ t _ => intro l r hp h; exact one hp rfl (fun _ _ => rfl) rfl h
 | fp t _ => intro l r hp h; exact one hp rfl (fun _ _ => rfl) rfl h
 | rY => intro l r hp h; exact one hp rfl (fun _ _ => rfl) rfl h
 | iT T t r _ _ => intro l q hp h; exact one hp rfl (fun _ _ => rfl) rfl h
 | arr n t ih =>
  intro l r hp h
  have hp' : t.plain = true := hp
  have gen : ∀ n l, UF (yL t) n l = some r -> ∃ m, l = m ++ r /\ m.length = n * t.size /\ ∀ i, i < n -> ∀ c, c < t.size -> ∃ u, m[i * t.size + c]? = some u /\ u.oneCell' = true /\ t.cell t.dflt c w G u := by
   intro n
   induction n with
   | zero => intro l h; simp only [UF, aS] at h; subst h; exact ⟨[], rfl, by simp, fun i hi => by omega⟩
   | succ n Ui =>
    intro l h
    simp only [UF] at h
    obtain ⟨l1, h1, h2⟩ := Option.bind_eq_some_iff.1 h
    obtain ⟨m1, rfl, e1, f1⟩ := ih hp' h1
    obtain ⟨m2, rfl, e2, f2⟩ := Ui _ h2
    refine ⟨m1 ++ m2, by simp, by rw [List.length_append, e1, e2, Nat.add_mul]; omega, fun i hi c hc => ?_⟩
    cases i with
    | zero =>
     obtain ⟨u, a1, a2⟩ := f1 c hc
     exact ⟨u, by rw [Nat.zero_mul, Nat.zero_add, List.getElem?_append_left (by omega)]; exact a1, a2⟩
    | succ i =>
     obtain ⟨u, a1, a2⟩ := f2 i (by omega) c hc
     refine ⟨u, ?_, a2⟩
     rw [Nat.add_mul, Nat.one_mul, List.getElem?_append_right (by omega), e1, show i * t.size + t.size + c - t.size = i * t.size + c by omega]
     exact a1
  obtain ⟨m, h1, h2, h3⟩ := gen n l h
  refine ⟨m, h1, h2, fun c hc => ?_⟩
  obtain ⟨a1, a2, a3, a4⟩ := div_lt (show c < n * t.size from hc)
  obtain ⟨u, b1, b2, b3⟩ := h3 _ a1 _ a3
  rw [a4] at b1
  refine ⟨u, b1, b2, ?_⟩
  show t.cell ((List.replicate n t.dflt).getD (c / t.size) t.dflt) (c % t.size) w G u
  have : (List.replicate n t.dflt).getD (c / t.size) t.dflt = t.dflt := by simp [List.getD, a1]
  rw [this]; exact b3
 | pair a b iha ihb =>
  intro l r hp h
  simp only [DT.plain, bC] at hp
  simp only [yL] at h
  obtain ⟨l1, h1, h2⟩ := Option.bind_eq_some_iff.1 h
  obtain ⟨m1, rfl, e1, f1⟩ := iha hp.1 h1
  obtain ⟨m2, rfl, e2, f2⟩ := ihb hp.2 h2
  refine ⟨m1 ++ m2, by simp, by rw [List.length_append, e1, e2]; rfl, fun c hc => ?_⟩
  by_cases hca : c < a.size
  ·obtain ⟨u, a1, a2, a3⟩ := f1 c hca
   refine ⟨u, by rw [List.getElem?_append_left (by omega)]; exact a1, a2, ?_⟩
   show (if c < a.size then a.cell a.dflt c else b.cell b.dflt (c - a.size)) w G u
   rw [if_pos hca]; exact a3
  ·have hc' : c < a.size + b.size := hc
   obtain ⟨u, a1, a2, a3⟩ := f2 (c - a.size) (by omega)
   refine ⟨u, by rw [List.getElem?_append_right (by omega), e1]; exact a1, a2, ?_⟩
   show (if c < a.size then a.cell a.dflt c else b.cell b.dflt (c - a.size)) w G u
   rw [if_neg hca]; exact a3
 | dM t ih => intro l r hp h; simp [DT.plain] at hp
theorem BU {v : Value} {t : DT} (hp : t.plain = true) (h : isZero v t = true) {w : World} {G : Nat -> Prop} : t.val t.dflt w G v := by
 unfold isZero at h
 split at h
 ·rename_i ha
  split at h
  ·rename_i cs
   simp only [beq_iff_eq] at h
   obtain ⟨r, h1, h2⟩ := Option.map_eq_some_iff.1 h
   have : r = [] := List.eq_nil_of_length_eq_zero h2
   subst this
   obtain ⟨m, e1, e2, e3⟩ := amH (w := w) (G := G) hp h1
   rw [List.append_nil] at e1
   refine (DT.oG ha).2 ⟨cs, rfl, by rw [<- e2, <- e1]; simp, fun c hc => ?_⟩
   obtain ⟨u, a1, a2, a3⟩ := e3 c hc
   exact ⟨u, by rw [<- Array.getElem?_toList, e1]; exact a1, a2, a3⟩
  ·cases h
 ·rename_i ha
  exact (DT.val_one (by simpa using ha)).2 (Ul h)
def I4 (L : bF) (v : DT) (x : TV) : Option (List v.den) :=
 match x.lM L with
 | some ⟨v', l⟩ => if h : v' = v then some (h ▸ l) else none
 | none => none
def DT.inj (T' : Nat) (t' : DT) (y : t'.den) : (s : DT) -> Option s.den
 | .iT T t r => if h : t' = t then (if T = T' then some (.inl (h ▸ y)) else (DT.inj T' t' y r).map .inr) else (DT.inj T' t' y r).map .inr
 | _ => none
theorem DT.aw9 {T' : Nat} {t' : DT} {y : t'.den} {w : World} {G : Nat -> Prop} {u : Value} (h1 : u.oneCell' = true) (h2 : t'.cell y 0 w G u) : ∀ {s : DT} {z : s.den}, DT.inj T' t' y s = some z -> s.cell z 0 w G (.iface T' u) := by
 intro s
 induction s with
 | iT T t r _ ih =>
  intro z h
  have rest : (DT.inj T' t' y r).map Sum.inr = some z -> (DT.iT T t r).cell z 0 w G (.iface T' u) := fun h => by
   obtain ⟨b, hb, rfl⟩ := Option.map_eq_some_iff.1 h
   exact ih hb
  simp only [DT.inj] at h
  split at h
  ·rename_i e
   subst e
   split at h
   ·rename_i e
    subst e
    obtain rfl := aC h
    exact ⟨u, rfl, h1, h2⟩
   ·exact rest h
  ·exact rest h
 | _ => intro z h; simp [DT.inj] at h
def wK (L : bF) (x : TV) : (t : DT) -> Option (t.den × Bool)
 | .sl v => (I4 L v x).map fun l => (l, true)
 | .fJ v => (I4 L v x).map fun l => (some l, decide (0 < l.length))
 | .iT T t r => match x with
  | .dv (.iT T' t' .rY) (.inl y) => (DT.inj T' t' y (.iT T t r)).map fun z => (z, true)
  | _ => none
 | _ => none
def TV.as (L : bF) (t : DT) (x : TV) : Option (t.den × Bool) :=
 match x with
 | .dv u y => if h : u = t then some (h ▸ y, true) else wK L (.dv u y) t
 | .nl => (match t with
  | .sl _ => some ([], true)
  | .jT _ => some ([], true)
  | .fJ _ => some (none, true)
  | _ => none)
 | .row id => wK L (.row id) t
 | .iP id a b => wK L (.iP id a b) t
 | .cst v => if isZero v t then some (t.dflt, true) else none
 | _ => none
theorem aDT {w : World} {G : Nat -> Prop} {t : DT} {l : List t.den} {v : Value} (h : (DT.sl t).cell l 0 w G v) (hl : 0 < l.length) : (DT.fJ t).cell (some l) 0 w G v := by
 obtain ⟨p, cap, h1, h2, h3, h4, _, h6⟩ := h
 refine ⟨p, cap, h1, h2, h3, h4, ?_, h6⟩
 obtain ⟨b, o, e, _⟩ := h6 hl
 intro e2; rw [e] at e2; cases e2
theorem ac4 {L : bF} {v : DT} {x : TV} {l : List v.den} (h : I4 L v x = some l) {w : World} {G : Nat -> Prop} {π : Nat -> Pl} {z : Value} (hv : VR w G π L x z) : (DT.sl v).cell l 0 w G z := by
 unfold I4 at h
 split at h
 ·rename_i v' l' hf
  split at h
  ·rename_i e
   subst e
   obtain rfl := aC h
   exact TV.NH hf hv
  ·cases h
 ·cases h
theorem MX {L : bF} {t : DT} {x : TV} {y : t.den} {b : Bool} (h : wK L x t = some (y, b)) (hb : b = true) {w : World} {G : Nat -> Prop} {π : Nat -> Pl} {z : Value} (hv : VR w G π L x z) : t.val y w G z := by
 cases t with
 | sl v =>
  obtain ⟨l, hl, he⟩ := Option.map_eq_some_iff.1 h
  simp only [bJ] at he
  obtain ⟨rfl, rfl⟩ := he
  exact (DT.val_one rfl).2 (ac4 hl hv)
 | fJ v =>
  obtain ⟨l, hl, he⟩ := Option.map_eq_some_iff.1 h
  simp only [bJ] at he
  obtain ⟨rfl, rfl⟩ := he
  exact (DT.val_one rfl).2 (aDT (ac4 hl hv) (by simpa using hb))
 | iT T t r =>
  simp only [wK] at h
  split at h
  ·rename_i T' t' q
   obtain ⟨l, hl, he⟩ := Option.map_eq_some_iff.1 h
   simp only [bJ] at he
   obtain ⟨rfl, rfl⟩ := he
   obtain ⟨u, e1, e2, e3⟩ : ∃ u, z = .iface T' u /\ u.oneCell' = true /\ t'.cell q 0 w G u := (DT.val_one (t := .iT T' t' .rY) rfl).1 hv
   subst e1
   exact (DT.val_one rfl).2 (DT.aw9 e2 e3 hl)
  ·cases h
 | _ => simp [wK] at h
theorem TV.qL {L : bF} {t : DT} {x : TV} {y : t.den} {b : Bool} (h : x.as L t = some (y, b)) (hb : b = true) (hp : t.plain = true) {w : World} {G : Nat -> Prop} {π : Nat -> Pl} {v : Value} (hv : VR w G π L x v) : t.val y w G v := by
 cases x with
 | dv u z =>
  simp only [TV.as] at h
  split at h
  ·rename_i e
   subst e
   simp only [aS, bJ] at h
   obtain ⟨rfl, _⟩ := h
   exact hv
  ·exact MX h hb hv
 | nl =>
  obtain rfl : v = .slice none 0 0 := hv
  have nil : ∀ (fl : Option Addr -> Nat -> Nat -> Prop) (k : Nat) (f : Nat -> Nat -> CP), fl none 0 0 -> lX fl k 0 f w G (.slice none 0 0) := fun fl k f hf => ⟨none, 0, rfl, Nat.le_refl _, by simp [maxLen], fun _ => rfl, hf, fun h => by omega⟩
  simp only [TV.as] at h
  split at h
  ·simp only [aS, bJ] at h; obtain ⟨rfl, _⟩ := h; exact (DT.val_one rfl).2 (nil _ _ _ trivial)
  ·simp only [aS, bJ] at h; obtain ⟨rfl, _⟩ := h; exact (DT.val_one rfl).2 (nil _ _ _ rfl)
  ·simp only [aS, bJ] at h; obtain ⟨rfl, _⟩ := h; exact (DT.val_one rfl).2 rfl
  ·cases h
 | row id => exact MX h hb hv
 | iP id i j => exact MX h hb hv
 | cst u =>
  obtain rfl : v = u := hv
  simp only [TV.as] at h
  split at h
  ·rename_i hz
   simp only [aS, bJ] at h
   obtain ⟨rfl, _⟩ := h
   exact BU hp hz
  ·cases h
 | _ => simp [TV.as] at h
end
section
def yZ (ev : Operand -> TV) (L : bF) (t : DT) : List Operand -> Option (List t.den × Bool)
 | [] => some ([], true)
 | x :: r => match (ev x).as L t with
  | some (y, b) => match yZ ev L t r with
   | some (l, b') => some (y :: l, b && b')
   | none => none
  | none => none
def small (n eb : Nat) : Bool := decide (n * eb <= 140737488355328) && decide (n <= 140737488355328)
def placeOf (d : TD) : Nat -> Option (Nat × Nat) := if d.kd = 4 then fun i => d.aP[i]? else fun i => some (i * d.elem, d.elem)
def zQ (ev : Operand -> TV) (O : bF) (t : DT) (d : TD) : List (Nat × Operand) -> t.den -> Option (t.den × Bool)
 | [], z => some (z, true)
 | (i, x) :: r, z => match t.at [i] with
  | some L => match (ev x).as O L.u with
   | some (y, b) => if L.u.plain && t.pO i && L.fits z && placeOf d i == some (L.off, L.u.size) then (match zQ ev O t d r (L.put z y) with
    | some (v, b') => some (v, b && b')
    | none => none) else none
   | none => none
  | none => none
def CZ : List (Option DT) -> List Value -> Option (List TV)
 | [], [] => some []
 | none :: r, v :: l => match CZ r l with
  | some fs => if v.oneCell' then some (vY v :: fs) else none
  | none => none
 | some t :: r, l => if t.plain then (match yL t l with
  | some l' => (match CZ r l' with
   | some fs => some (.dv t t.dflt :: fs)
   | none => none)
  | none => none) else none
 | _, _ => none
def TV.one : TV -> Bool
 | .dv t _ => !t.agg && t.plain
 | .nl => true
 | .cst v => v.oneCell'
 | .el _ _ _ => true
 | .fn _ _ _ _ => true
 | _ => false
def TV.one' (L : bF) : TV -> Bool
 | .row id => match L id with
  | some (.row _ _) => true
  | some (.dG _ _) => true
  | some (.map _ _ _) => true
  | some (.bD _ _ _) => true
  | _ => false
 | .ptr id _ _ => match L id with
  | some o => o.live
  | none => false
 | x => x.one
def xA : (t : DT) -> t.den -> List TV
 | .pair a b, x => .dv a x.1 :: xA b x.2
 | _, _ => []
def TV.Iu : TV -> Bool
 | .dv u _ => !u.agg
 | _ => true
def EF (x y : TV) : Bool :=
 match x with
 | .dv t _ => if t.agg then (match y with | .dv u _ => decide (u = t) | _ => false) else decide (t.size = 1) && decide (y.size = 1) && y.Iu
 | _ => decide (y.size = 1) && y.Iu
def TV.afY : TV -> Bool
 | .dv (.sl _) _ => true
 | .dv (.fJ _) _ => true
 | _ => false
def vN : List TV -> List TV -> Bool
 | [], [] => true
 | x :: r, y :: r' => EF x y && vN r r'
 | _, _ => false
def TO.EO (L : bF) (o : TO) (i : Nat) (p : List Nat) (y : TV) (d : TD) : Option (TO × Bool) :=
 match o, p with
 | .row t l, p => match t.at p with
  | some N => match y.as L N.u with
   | some (z, b) => if d.kd != 0 && N.u.plain && d.size == N.u.size then some (.row t (l.set i (N.put (l.getD i t.dflt) z)), b && N.fits (l.getD i t.dflt)) else none
   | none => none
  | none => none
 | .aV fs, j :: p => match fs[j]? with
  | some x => match p with
   | [] => if !x.afY && EF x y && y.one' L && (d.kd == 1 || d.kd == 2) then some (.aV (fs.set j y), true) else (match x with
    | .dv t z => match y.as L t with
     | some (z', b) => if d.kd != 0 && t.plain && d.size == t.size then some (.aV (fs.set j (.dv t z')), b) else none
     | none => none
    | _ => none)
   | q :: p => match x with
    | .dv t z => match t.at (q :: p) with
     | some N => match y.as L N.u with
      | some (z', b) => if d.kd != 0 && N.u.plain && d.size == N.u.size then some (.aV (fs.set j (.dv t (N.put z z'))), b && N.fits z) else none
      | none => none
     | none => none
    | _ => none
  | none => none
 | .aV fs, [] => match y with
  | .dv t z => if (i == 0 && (d.kd != 0 && t.plain && d.size == t.size)) && (decide (aP (xA t z) (xA t z).length = t.size) && vN fs (xA t z)) then some (.aV (xA t z), true) else none
  | _ => none
 | _, _ => none
def wU (zl zc : Int) (eb : Nat) : Bool := decide (0 <= zl /\ zl <= zc) && (decide (zc * eb <= 140737488355328) && decide (zc <= 140737488355328))
theorem Ir {zl zc : Int} {eb : Nat} (h : wU zl zc eb = true) : 0 <= zl /\ zl <= zc /\ zc * eb <= 140737488355328 /\ zc <= 140737488355328 := by
 unfold wU at h
 simp only [bC, fH] at h
 exact ⟨h.1.1, h.1.2, h.2.1, h.2.2⟩
structure Eff where
 y : TV
 u : List (Nat × TO)
 b : Bool
def KI (TI : Nat -> TD) (TY : Nat -> DT) (ev : Operand -> TV) (L : bF) (d : Nat) (T : Nat) (x y : TV) : Option Eff :=
 match L d with
 | some _ => none
 | none => match x with
  | .row id => match L id with
   | some (.row t l) => match y.data L with
    | some ⟨t', m⟩ => if h : t' = t then (if (TI T).kd == 2 && (TI T).elem == t.size then
      some ⟨.row d, [(d, .row t (l ++ h ▸ m)), (id, .dead)], small (l.length + m.length) (TI T).eb⟩ else none) else none
    | none => none
   | _ => none
  | .nl => match TY T, y.data L with
   | .sl t, some ⟨t', m⟩ => if t' = t then (if (TI T).kd == 2 && (TI T).elem == t'.size then some ⟨.row d, [(d, .row t' m)], small m.length (TI T).eb⟩ else none) else none
   | _, _ => none
  | .dv (.jT t) l => match y.data L with
   | some ⟨t', m⟩ => if h : t' = t then (if (TI T).kd == 2 && (TI T).elem == t.size then
      some ⟨.row d, [(d, .row t (l ++ h ▸ m))], decide (0 < m.length) && small (l.length + m.length) (TI T).eb⟩ else none) else none
   | none => none
  | _ => none
def Ei : Value -> Bool
 | .slice none 0 0 => true
 | _ => false
theorem aD8 (n : Nat) : mW (List.replicate n .nl) = none := by
 unfold mW
 cases h : (List.replicate n TV.nl).getLast? with
 | none => rfl
 | some x =>
  have := List.eq_of_mem_replicate (List.mem_of_getLast? h)
  subst this; rfl
def Zq (l : List TV) (T n : Nat) : Bool :=
 match mW l with
 | none => true
 | some T' => decide (T' = T) && decide (n = aP l l.length)
theorem aHK {l : List TV} {T : Nat} {cur : Array Value} (h : Zq l T cur.size = true) : Whole l cur T 0 := fun T' hT => by
 unfold Zq at h
 rw [hT] at h
 simp only [bC, fH] at h
 exact ⟨rfl, h.1.symm, h.2⟩
def jX (TI : Nat -> TD) (TY : Nat -> DT) (rc : Nat -> Option (List (Option DT))) (ev : Operand -> TV) (L : bF) (dst : Option Nat) : Op -> Option Eff
  | .alloc T => match dst with
    | some d => match L d with
      | some _ => none
      | none => if (TI T).kd == 1 || (TI T).kd == 2 then (match rc d with
        | some [some (.arr 0 t)] => (match L (2000000 + d) with
          | some _ => none
          | none => if (TI T).kd == 2 && isZero (TI T).zero (.sl t) && t.plain then some ⟨.ptr d 0 [0], [(d, .aV [.row (2000000 + d)]), (2000000 + d, .row t [])], true⟩ else none)
        | some [some t] => if isZero (TI T).zero t && t.plain && !t.agg then some ⟨.ptr d 0 [0], [(d, .aV [.dv t t.dflt])], true⟩ else none
        | _ => some ⟨.ptr d 0 [0], [(d, .aV [vY (TI T).zero])], true⟩) else
        (match rc d with
        | some fs => (match CZ fs (TI T).zero.cells.toList with
          | some l => if (TI T).kd != 0 && Zq l T (TI T).zero.cells.size then some ⟨.ptr d 0 [], [(d, .aV l)], true⟩ else none
          | none => none)
        | none => if (TI T).kd != 0 && isZero (TI T).zero (TY T) && (TY T).plain && (TI T).size == (TY T).size then some ⟨.ptr d 0 [], [(d, .row (TY T) [(TY T).dflt])], true⟩ else none)
    | none => none
  | .box T x => match dst with
    | some d => match L d with
      | some _ => none
      | none => if (TI T).kd == 1 || (TI T).kd == 2 then (if (ev x).one' L && (ev x).tag.isNone then some ⟨.ptr d 0 [0], [(d, .aV [ev x])], true⟩ else none) else
        (match rc d with
        | some _ => (match ev x with
          | .dv t y => if (TI T).kd != 0 && t.agg && t.plain && decide (t = TY T) && (mW (xA t y)).isNone then some ⟨.ptr d 0 [], [(d, .aV (xA t y))], true⟩ else none
          | _ => none)
        | none => match (ev x).as L (TY T) with
          | some (y, b) => if (TI T).kd != 0 && (TY T).plain && (TI T).size == (TY T).size then some ⟨.ptr d 0 [], [(d, .row (TY T) [y])], b⟩ else none
          | none => none)
    | none => none
  | .buildSlice T n parts => match dst, TY T with
    | some d, .sl t => match L d with
      | some _ => none
      | none => match yZ ev L t (parts.toList.map (·.2)) with
        | some (l, b) => if (TI T).kd == 2 && (TI T).elem == t.size && t.plain && parts.toList.map (·.1) == List.range n && decide (n * (TI T).elem <= 16777216) then some ⟨.row d, [(d, .row t l)], b⟩ else none
        | none => none
    | _, _ => none
  | .makeSlice T l c => match dst, ev l, ev c with
    | some d, .dv (.int _) zl, .dv (.int _) zc => match L d with
      | some _ => none
      | none => match rc d with
       | some _ => if (TI T).kd == 2 && (TI T).ez.cells.toList.all Ei then
            some ⟨.view d 0 [] (TI T).elem (Int.toNat zl) 0 (Int.toNat zl), [(d, .aV (List.replicate (Int.toNat zl * (TI T).elem) .nl))], wU zl zc (TI T).eb && decide (zl = zc)⟩ else none
       | none => match TY T with
        | .sl t => if (TI T).kd == 2 && isZero (TI T).ez t && t.plain && (TI T).elem == t.size then
            some ⟨.row d, [(d, .row t (List.replicate (Int.toNat zl) t.dflt))], wU zl zc (TI T).eb⟩ else none
        | _ => none
    | _, _, _ => none
  | .build T parts => match zQ ev L (TY T) (TI T) parts.toList (TY T).dflt with
    | some (z, b) => if ((TI T).kd == 3 || (TI T).kd == 4) && (TY T).agg && (TY T).plain && (TI T).size == (TY T).size && isZero (TI T).zero (TY T) then some ⟨.dv (TY T) z, [], b⟩ else none
    | none => none
  | .store T p y => match dst, ev p with
    | none, .ptr id i q => match L id with
      | some o => match o.EO L i q (ev y) (TI T) with
        | some (o', b) => some ⟨.any, [(id, o')], b⟩
        | none => none
      | none => none
    | _, _ => none
  | .call c => match c.callee, dst, c.args.toList, c.argTypes.toList with
    | .builtin .append, some d, [x, y], [T, T'] => if T = T' then KI TI TY ev L d T (ev x) (ev y) else none
    | _, _, _, _ => none
  | _ => none
section
variable {P : Program} {TI : Nat -> TD} {TY : Nat -> DT} {c : Cx} {F : Nat -> Prop} {s : TS} {π : Nat -> Pl} {a : Act} {w : World}
theorem aI.newRow (hm : aI c F π s a w) {w' : World} {d : Nat} (hd : aA s.ob d = none) {t : DT} {l : List t.den} {cs : List Value} (hcl : CL w (Gz F w π (aA s.ob)) t l cs) {cur : Array Value} {e : TypeId} {cap : Nat}
  (hb : Below w.heap.size w w') (hnew : kQ w' w.heap.size cur e) (hpre : ∀ q, q < cs.length -> cur[q]? = cs[q]?) (hsz : cap * t.size <= cur.size) (hn : l.length <= cap) (hcm : cap <= maxLen) :
  aI c F (aW π d ⟨some w.heap.size, 0, cap, iU⟩) ⟨s.sl, (d, .row t l) :: s.ob⟩ a w' := by
 have hlt : w.heap.size < w'.heap.size := hnew.lt
 have E := gK.new (F := F) (π := π) (p := ⟨some w.heap.size, 0, cap, iU⟩) (o := .row t l) hb hd fun g hg => by cases hg.g rfl; exact Nat.le_refl _
 refine hm.GK hb hd (fun g hg => by cases hg; exact ⟨Nat.le_refl _, hlt⟩) (.inr ⟨w.heap.size, cur, e, by simp [aW], hnew, by simpa [aW] using hn, by simpa [aW] using hcm, by simpa [aW] using hsz, fun i hi cc hcc => ?_⟩)
 obtain ⟨u, a1, a2, a3⟩ := hcl.el i hi cc hcc
 refine ⟨u, ?_, a2, DT.iE E.fz a3⟩
 simp only [aW, if_true, Nat.zero_add]
 rw [hpre _ (by rw [hcl.len]; exact ED hi hcc)]; exact a1
theorem VR.newRow {w' : World} {G : Nat -> Prop} {d : Nat} {p : Pl} {t : DT} {l : List t.den} {O : List (Nat × TO)} : VR w' G (aW π d p) (aA ((d, .row t l) :: O)) (.row d) (p.hdr l.length) := by
 simp [VR, aA, aW]
theorem aI.JX (hm : aI c F π s a w) {d : Nat} (hd : aA s.ob d = none) {fs : List TV} {cur : Array Value} {e : TypeId} (ht : Whole fs cur e 0)
  (hf : ∀ (j : Nat) (x : TV), fs[j]? = some x -> ∀ cc, cc < x.size -> ∃ u, cur[aP fs j + cc]? = some u /\ u.oneCell' = true /\ x.mG w (Gz F w π (aA s.ob)) π (aA s.ob) cc u) :
  aI c F (aW π d ⟨some w.heap.size, 0, 1, iU⟩) ⟨s.sl, (d, .aV fs) :: s.ob⟩ a (w.alloc (.cells cur e)) := by
 have hb : Below w.heap.size w (w.alloc (.cells cur e)) := (Below.refl _ _).alloc (Nat.le_refl _) _
 have E := gK.new (F := F) (π := π) (p := ⟨some w.heap.size, 0, 1, iU⟩) (o := .aV fs) hb hd fun g hg => by cases hg.g rfl; exact Nat.le_refl _
 refine hm.GK hb hd (fun g hg => by cases hg; exact ⟨Nat.le_refl _, by simp⟩) ⟨w.heap.size, cur, e, by simp [aW], ⟨.of (heap_alloc_new w _), by simpa [aW] using ht⟩, fun j x hx cc hcc => ?_⟩
 obtain ⟨u, a1, a2, a3⟩ := hf j x hx cc hcc
 exact ⟨u, by simp only [aW, if_true, Nat.zero_add]; exact a1, a2, TV.NG E a3⟩
def jR (P : Program) (c : Cx) (F : Nat -> Prop) (s : TS) (π : Nat -> Pl) (a : Act) (w : World) (o : Oper) (e : Eff) : Prop :=
 ∃ v w' aJ, ((execOp a.eval o).run P w = .ok (.value v) w' \/ (execOp a.eval o).run P w = .ok .skip w' /\ v = undef) /\ aI c F aJ ⟨s.sl, e.u ++ s.ob⟩ a w' /\ VR w' (Gz F w' aJ (aA (e.u ++ s.ob))) aJ (aA (e.u ++ s.ob)) e.y v
theorem TV.UZ {x : TV} (h : x.one = true) {G : Nat -> Prop} {O : bF} {v : Value} (hv : VR w G π O x v) : v.oneCell' = true := by
 cases x with
 | dv t y => simp only [TV.one, bC, Bool.not_eq_true'] at h; exact DT.SG ((DT.val_one h.1).1 hv)
 | nl => have : v = _ := hv; subst this; rfl
 | cst u => have : v = _ := hv; subst this; exact h
 | el t y p => obtain ⟨b, o, L, _, _, rfl, _⟩ := hv; rfl
 | fn g k n f => obtain ⟨fs, cs, rfl, _⟩ := hv; rfl
 | _ => simp [TV.one] at h
theorem JC (p : Pl) (n : Nat) : (p.hdr n).oneCell' = true := by unfold Pl.hdr; split <;> rfl
theorem TV.Yi {x : TV} {G : Nat -> Prop} {O : bF} (h : x.one' O = true) {v : Value} (hv : VR w G π O x v) : v.oneCell' = true := by
 cases x with
 | row id =>
  simp only [TV.one'] at h
  simp only [VR] at hv
  cases ho : O id with
  | none => rw [ho] at hv; exact hv.elim
  | some o =>
   rw [ho] at hv h
   cases o with
   | row t l => simp only at hv; subst hv; exact JC _ _
   | dG t l => exact DT.SG (t := .sl t) (x := l) (j := 0) hv
   | map kt vt l => obtain ⟨g, _, rfl⟩ := hv; rfl
   | bD t ls out => simp only at hv; subst hv; exact JC _ _
   | _ => cases h
 | ptr id i p =>
  simp only [TV.one'] at h
  simp only [VR] at hv
  cases ho : O id with
  | none => rw [ho] at hv; exact hv.elim
  | some o =>
   rw [ho] at hv h
   obtain ⟨c, g, _, _, _, rfl⟩ := hv h
   rfl
 | any => simp [TV.one', TV.one] at h
 | iP id a b => simp [TV.one', TV.one] at h
 | view id i p k n a b => simp [TV.one', TV.one] at h
 | dM n f => simp [TV.one', TV.one] at h
 | st n f => simp [TV.one', TV.one] at h
 | dv t y => exact TV.UZ (x := .dv t y) h hv
 | nl => exact TV.UZ (x := .nl) h hv
 | cst v => exact TV.UZ (x := .cst v) h hv
 | el t y p => exact TV.UZ (x := .el t y p) h hv
 | fn g k n f => exact TV.UZ (x := .fn g k n f) h hv
theorem TV.Rf {x : TV} {G : Nat -> Prop} {O : bF} (h : x.one' O = true) {v : Value} (hv : VR w G π O x v) : x.size = 1 /\ x.mG w G π O 0 v := by
 cases x with
 | dv t y =>
  have h' : (TV.dv t y).one = true := h
  simp only [TV.one, bC, Bool.not_eq_true'] at h'
  exact ⟨DT.O5 h'.1 h'.2, (DT.val_one h'.1).1 hv⟩
 | _ => exact ⟨rfl, hv⟩
theorem acK {ev : Operand -> TV} {G : Nat -> Prop} {O : bF} {t : DT} (hp : t.plain = true) : ∀ {xs : List Operand} {l : List t.den} {b : Bool}, yZ ev O t xs = some (l, b) -> b = true -> (∀ x, VR w G π O (ev x) (a.eval x)) -> l.length = xs.length /\ ∀ (i : Nat) (x : Operand), xs[i]? = some x -> t.val (l.getD i t.dflt) w G (a.eval x)
 | [], l, b, h, hb, hv => by
  simp only [yZ, aS, bJ] at h
  obtain ⟨rfl, _⟩ := h
  exact ⟨rfl, fun i x hx => by simp at hx⟩
 | x :: r, l, b, h, hb, hv => by
  simp only [yZ] at h
  split at h
  ·rename_i y b1 h1
   split at h
   ·rename_i l1 b2 h2
    simp only [aS, bJ] at h
    obtain ⟨rfl, rfl⟩ := h
    simp only [bC] at hb
    obtain ⟨e1, e2⟩ := acK hp h2 hb.2 hv
    refine ⟨by simp [e1], fun i z hz => ?_⟩
    cases i with
    | zero => simp at hz; subst hz; exact TV.qL h1 hb.1 hp (hv x)
    | succ i => simp at hz; simpa using e2 i z hz
   ·cases h
  ·cases h
theorem xR (w : World) (o : Obj) : (w.alloc o).heap[w.heap.size]? = some o := heap_alloc_new w o
theorem Jr (hm : aI c F π s a w) : ∀ {fs : List (Option DT)} {l : List Value} {xs : List TV}, CZ fs l = some xs -> ∀ (j : Nat) (x : TV), xs[j]? = some x -> ∀ cc, cc < x.size -> ∃ u, l[aP xs j + cc]? = some u /\ u.oneCell' = true /\ x.mG w (Gz F w π (aA s.ob)) π (aA s.ob) cc u
 | [], [], xs, h, j, x, hx => by simp only [CZ, aS] at h; subst h; simp at hx
 | [], v :: l, xs, h, j, x, hx => by simp [CZ] at h
 | none :: r, [], xs, h, j, x, hx => by simp [CZ] at h
 | none :: r, v :: l, xs, h, j, x, hx => by
  simp only [CZ] at h
  split at h
  ·rename_i fs hfs
   split at h
   ·rename_i hone
    obtain rfl := aC h
    have hs : (vY v).size = 1 := by unfold vY; split <;> rfl
    intro cc hcc
    cases j with
    | zero =>
     simp at hx; subst hx
     obtain rfl : cc = 0 := by omega
     refine ⟨v, rfl, hone, ?_⟩
     unfold vY
     split <;> rfl
    | succ j =>
     simp at hx
     obtain ⟨u, a1, a2⟩ := Jr hm hfs j x hx cc hcc
     refine ⟨u, ?_, a2⟩
     simp only [aP, hs, show 1 + aP fs j + cc = (aP fs j + cc) + 1 by omega, List.getElem?_cons_succ]
     exact a1
   ·cases h
  ·cases h
 | some t :: r, l, xs, h, j, x, hx => by
  simp only [CZ] at h
  split at h
  ·rename_i hp
   split at h
   ·rename_i l' hl'
    split at h
    ·rename_i fs hfs
     obtain rfl := aC h
     obtain ⟨m, rfl, e1, e2⟩ := amH (w := w) (G := Gz F w π (aA s.ob)) hp hl'
     intro cc hcc
     cases j with
     | zero =>
      simp at hx; subst hx
      have BO : cc < t.size := hcc
      obtain ⟨u, a1, a2, a3⟩ := e2 cc BO
      exact ⟨u, by simp only [aP, Nat.zero_add]; rw [List.getElem?_append_left (by omega)]; exact a1, a2, a3⟩
     | succ j =>
      simp at hx
      obtain ⟨u, a1, a2⟩ := Jr hm hfs j x hx cc hcc
      refine ⟨u, ?_, a2⟩
      simp only [aP, TV.size]
      rw [List.getElem?_append_right (by omega), e1, show t.size + aP fs j + cc - t.size = aP fs j + cc by omega]
      exact a1
    ·cases h
   ·cases h
  ·cases h
theorem split_ok : ∀ {t : DT} {y : t.den} {l : List Value} {G : Nat -> Prop} {O : bF}, (∀ cc, cc < t.size -> ∃ u, l[cc]? = some u /\ u.oneCell' = true /\ t.cell y cc w G u) -> ∀ (j : Nat) (x : TV), (xA t y)[j]? = some x -> ∀ cc, cc < x.size -> ∃ u, l[aP (xA t y) j + cc]? = some u /\ u.oneCell' = true /\ x.mG w G π O cc u := by
 intro t
 induction t with
 | pair a b iha ihb =>
  intro y l G O h j x hx cc hcc
  simp only [xA] at hx ⊢
  cases j with
  | zero =>
   simp at hx; subst hx
   have BO : cc < a.size := hcc
   obtain ⟨u, a1, a2, a3⟩ := h cc (by show cc < a.size + b.size; omega)
   refine ⟨u, by simp only [aP, Nat.zero_add]; exact a1, a2, ?_⟩
   have : (if cc < a.size then a.cell y.1 cc else b.cell y.2 (cc - a.size)) w G u := a3
   rw [if_pos BO] at this
   exact this
  | succ j =>
   simp at hx
   have hl : ∀ cc, cc < b.size -> ∃ u, (l.drop a.size)[cc]? = some u /\ u.oneCell' = true /\ b.cell y.2 cc w G u := fun cc hcc => by
    obtain ⟨u, a1, a2, a3⟩ := h (a.size + cc) (by show a.size + cc < a.size + b.size; omega)
    refine ⟨u, by rw [List.getElem?_drop]; exact a1, a2, ?_⟩
    have : (if a.size + cc < a.size then a.cell y.1 (a.size + cc) else b.cell y.2 (a.size + cc - a.size)) w G u := a3
    rw [if_neg (by omega), show a.size + cc - a.size = cc by omega] at this
    exact this
   obtain ⟨u, a1, a2⟩ := ihb (O := O) hl j x hx cc hcc
   refine ⟨u, ?_, a2⟩
   rw [List.getElem?_drop] at a1
   simp only [aP, TV.size]
   rw [<- a1]; congr 1; omega
 | _ => intro y l G O h j x hx; simp [xA] at hx
theorem aqP (hT : dI P TI) {rc : Nat -> Option (List (Option DT))} {T : Nat} {dst : Option Nat} {ty : TypeId} {pos : String} {after : Array Edge} {g : Option (Nat × Bool)} {e : Eff} (h : jX TI TY rc s.ev (aA s.ob) dst (.alloc T) = some e) (hm : aI c F π s a w) : jR P c F s π a w ⟨dst, .alloc T, ty, pos, after, g⟩ e := by
 simp only [jX] at h
 split at h
 ·rename_i d
  split at h
  ·cases h
  ·rename_i hd
   have hrun : (TI T).kd ≠ 0 -> (execOp a.eval ⟨some d, .alloc T, ty, pos, after, g⟩).run P w = .ok (.value (.pointer (some ⟨w.heap.size, 0, none⟩))) (w.alloc (.cells (TI T).zero.cells T)) := fun hk => by
    obtain ⟨i, h1, h2, h3⟩ := (hT T).info hk
    refine eP (e := Instr.alloc T true (.tuple #[])) rfl ?_
    simp [Instr.alloc, zeroValue, typeInfo, h1, h3, newVar, newRow]
   split at h
   ·rename_i hk
    simp only [Bool.or_eq_true, beq_iff_eq] at hk
    obtain ⟨hs, _⟩ := (hT T).one hk
    obtain ⟨z1, z2, z3, z4⟩ := (hT T).zc (by omega)
    have hone : (TI T).zero.oneCell' = true := by
     cases hz : (TI T).zero with
     | agg cs => have := z3 cs hz; omega
     | tuple cs =>
      have := z2
      rw [hz] at this
      exact this (.tuple cs) (by simp [Value.cells])
     | _ => rfl
    have Tt : ∀ {s0 : TS} {Lc : Nat -> Pl} {q : TV}, aI c F Lc s0 a w -> aA s0.ob d = none -> q.size = 1 -> (∀ o, q.iF 0 [] = some o -> o = 0) -> q.iF 0 [] = some 0 -> q.nU [] -> q.mG w (Gz F w Lc (aA s0.ob)) Lc (aA s0.ob) 0 (TI T).zero ->
      ∃ aJ, aI c F aJ ⟨s0.sl, (d, .aV [q]) :: s0.ob⟩ a (w.alloc (.cells (TI T).zero.cells T)) /\ VR (w.alloc (.cells (TI T).zero.cells T)) (Gz F (w.alloc (.cells (TI T).zero.cells T)) aJ (aA ((d, .aV [q]) :: s0.ob))) aJ (aA ((d, .aV [q]) :: s0.ob)) (.ptr d 0 [0]) (.pointer (some ⟨w.heap.size, 0, none⟩)) := fun {s0 Lc q} hm hd hq1 _ hq2 hq3 hq4 => by
     have hR := hm.JX hd (fs := [q]) (cur := (TI T).zero.cells) (e := T) (.none (show q.tag = none from KH (by omega))) fun j x hx cc hcc => by
      cases j with
      | zero =>
       simp at hx; subst hx
       obtain rfl : cc = 0 := by omega
       exact ⟨(TI T).zero, by rw [cells_one hone]; rfl, hone, hq4⟩
      | succ j => simp at hx
     refine ⟨_, hR, ?_⟩
     simp only [VR, aA, if_true]
     exact fun _ => ⟨0, w.heap.size, by simp only [TO.loc, List.getElem?_cons_zero, aP]; exact hq2, by simp only [TO.oO, List.getElem?_cons_zero]; exact hq3, by simp [aW], by simp [aW]⟩
    split at h
    ·rename_i t hrc
     split at h
     ·cases h
     ·rename_i hd2
      split at h
      ·rename_i hk2
       simp only [bC, beq_iff_eq] at hk2
       obtain rfl := aC h
       have hne : d ≠ 2000000 + d := by omega
       have hz := (DT.val_one (t := .sl t) rfl).1 (BU (t := .sl t) (w := w) (G := Gz F w π (aA s.ob)) hk2.2 hk2.1.2)
       obtain ⟨aJ, hR, hV⟩ := Tt (s0 := ⟨s.sl, (2000000 + d, .row t []) :: s.ob⟩) (q := .row (2000000 + d)) (hm.Xj t hd2) (by show aA ((2000000 + d, .row t []) :: s.ob) d = none; rw [dQ, if_neg hne]; exact hd) rfl (fun o h => by simpa [TV.iF] using h.symm) rfl trivial (by
        show VR _ _ _ _ _ _
        simp only [VR, aA, if_true, aW, Pl.hdr]
        have := hk2.1.2
        unfold isZero at this
        simp only [DT.agg, Bool.false_eq_true, if_false, wP] at this
        split at this
        ·assumption
        ·cases this)
       exact ⟨_, _, aJ, .inl (hrun (by omega)), hR, hV⟩
      ·cases h
    ·rename_i t _ hrc
     split at h
     ·rename_i hk2
      simp only [bC, Bool.not_eq_true'] at hk2
      obtain rfl := aC h
      have hz := BU (t := t) (w := w) (G := Gz F w π (aA s.ob)) hk2.1.2 hk2.1.1
      have hz' := (DT.val_one hk2.2).1 hz
      obtain ⟨aJ, hR, hV⟩ := Tt (q := .dv t t.dflt) hm hd (DT.O5 hk2.2 hk2.1.2) (fun o h => by simp [TV.iF, DT.at_nil] at h; omega) (by simp [TV.iF, DT.at_nil]) (DT.wO _) hz'
      exact ⟨_, _, aJ, .inl (hrun (by omega)), hR, hV⟩
     ·cases h
    ·obtain rfl := aC h
     obtain ⟨aJ, hR, hV⟩ := Tt (q := vY (TI T).zero) hm hd (by unfold vY; split <;> rfl) (fun o h => by
       generalize vY (TI T).zero = q at h
       cases q <;> simp [TV.iF, DT.at_nil] at h <;> omega) (by generalize vY (TI T).zero = q; cases q <;> simp [TV.iF, DT.at_nil]) (by generalize vY (TI T).zero = q; cases q <;> simp [TV.nU, DT.wO]) (by unfold vY; split <;> first | rfl | (simp_all; done) | exact ‹_›)
     exact ⟨_, _, aJ, .inl (hrun (by omega)), hR, hV⟩
   ·split at h
    ·split at h
     ·rename_i l hl
      split at h
      ·rename_i hk
       simp only [bC, bne_iff_ne, ne_eq] at hk
       obtain rfl := aC h
       have hR := hm.JX hd (cur := (TI T).zero.cells) (e := T) (aHK hk.2) fun j x hx cc hcc => by
        obtain ⟨u, a1, a2⟩ := Jr hm hl j x hx cc hcc
        exact ⟨u, by rw [<- Array.getElem?_toList]; exact a1, a2⟩
       refine ⟨_, _, _, .inl (hrun hk.1), hR, ?_⟩
       simp only [VR, List.singleton_append, aA, if_true]
       exact fun _ => ⟨0, w.heap.size, rfl, trivial, by simp [aW], by simp [aW]⟩
      ·cases h
     ·cases h
    ·split at h
     ·rename_i hk
      simp only [bC, bne_iff_ne, ne_eq, beq_iff_eq] at hk
      obtain ⟨⟨⟨k1, k2⟩, k3⟩, k4⟩ := hk
      obtain rfl := aC h
      obtain ⟨v1, v2⟩ := DT.sK k3 (BU (w := w) (G := Gz F w π (aA s.ob)) k3 k2)
      have hcl : CL w (Gz F w π (aA s.ob)) (TY T) [(TY T).dflt] (TI T).zero.cells.toList := by
       refine ⟨by simp [v1], fun i hi cc hcc => ?_⟩
       obtain rfl : i = 0 := by simpa using hi
       obtain ⟨u, a1, a2, a3⟩ := v2 cc hcc
       exact ⟨u, by rw [Nat.zero_mul, Nat.zero_add, Array.getElem?_toList]; exact a1, a2, by simpa using a3⟩
      have hR := hm.newRow (cap := 1) hd hcl (w' := w.alloc (.cells (TI T).zero.cells T)) ((Below.refl _ _).alloc (Nat.le_refl _) _) (.of (xR w _)) (fun q _ => by rw [Array.getElem?_toList]) (by rw [v1]; omega) (by simp) (by simp [maxLen])
      refine ⟨_, _, _, .inl (hrun k1), hR, ?_⟩
      simp only [VR, List.singleton_append, aA, if_true]
      refine fun _ => ⟨0, w.heap.size, by simp [TO.loc, DT.at_nil], ⟨by simp, DT.wO _⟩, by simp [aW], by simp [aW]⟩
     ·cases h
 ·cases h
theorem arM (hT : dI P TI) {rc : Nat -> Option (List (Option DT))} {T : Nat} {x : Operand} {dst : Option Nat} {ty : TypeId} {pos : String} {after : Array Edge} {g : Option (Nat × Bool)} {e : Eff} (h : jX TI TY rc s.ev (aA s.ob) dst (.box T x) = some e) (hb : e.b = true) (hm : aI c F π s a w) : jR P c F s π a w ⟨dst, .box T x, ty, pos, after, g⟩ e := by
 simp only [jX] at h
 have hv := hm.ev x
 split at h
 ·rename_i d
  split at h
  ·cases h
  ·rename_i hd
   have hrun : (execOp a.eval ⟨some d, .box T x, ty, pos, after, g⟩).run P w = .ok (.value (.pointer (some ⟨w.heap.size, 0, none⟩))) (w.alloc (.cells (a.eval x).cells T)) := by
    refine eP (e := Instr.box T (a.eval x)) rfl ?_
    simp [Instr.box, newVar, newRow]
   split at h
   ·rename_i hk
    simp only [Bool.or_eq_true, beq_iff_eq] at hk
    split at h
    ·rename_i h1
     simp only [bC, Option.isNone_iff_eq_none] at h1
     obtain ⟨h1, h1t⟩ := h1
     obtain rfl := aC h
     have hone := TV.Yi h1 hv
     obtain ⟨f1, f2⟩ := TV.Rf h1 hv
     have hR := hm.JX hd (fs := [s.ev x]) (cur := (a.eval x).cells) (e := T) (.none h1t) fun j y hx cc hcc => by
      cases j with
      | zero =>
       simp at hx; subst hx
       obtain rfl : cc = 0 := by omega
       exact ⟨a.eval x, by rw [cells_one hone]; rfl, hone, f2⟩
      | succ j => simp at hx
     refine ⟨_, _, _, .inl hrun, hR, ?_⟩
     simp only [VR, List.singleton_append, aA, if_true]
     refine fun _ => ⟨0, w.heap.size, ?_, ?_, by simp [aW], by simp [aW]⟩
     ·simp only [TO.loc, List.getElem?_cons_zero]
      generalize s.ev x = q
      cases q <;> simp [TV.iF, DT.at_nil, aP]
     ·simp only [TO.oO, List.getElem?_cons_zero]
      generalize s.ev x = q
      cases q <;> simp [TV.nU, DT.wO]
    ·cases h
   ·split at h
    ·split at h
     ·rename_i t y hx
      split at h
      ·rename_i hk
       simp only [bC, bne_iff_ne, ne_eq, fH, Option.isNone_iff_eq_none] at hk
       obtain rfl := aC h
       rw [hx] at hv
       obtain ⟨cs, e1, e2, e3⟩ := (DT.oG hk.1.1.1.2).1 hv
       have hR := hm.JX hd (fs := xA t y) (cur := (a.eval x).cells) (e := T) (.none hk.2) fun j z hz cc hcc => by
        obtain ⟨u, a1, a2⟩ := split_ok (l := cs.toList) (O := aA s.ob) (fun cc hcc => by
         obtain ⟨u, b1, b2⟩ := e3 cc hcc
         exact ⟨u, by rw [Array.getElem?_toList]; exact b1, b2⟩) j z hz cc hcc
        exact ⟨u, by rw [e1]; show cs[_]? = _; rw [<- Array.getElem?_toList]; exact a1, a2⟩
       refine ⟨_, _, _, .inl hrun, hR, ?_⟩
       simp only [VR, List.singleton_append, aA, if_true]
       exact fun _ => ⟨0, w.heap.size, rfl, trivial, by simp [aW], by simp [aW]⟩
      ·cases h
     ·cases h
    ·split at h
     ·rename_i y b hx
      split at h
      ·rename_i hk
       simp only [bC, bne_iff_ne, ne_eq, beq_iff_eq] at hk
       obtain ⟨⟨k1, k3⟩, k4⟩ := hk
       obtain rfl := aC h
       obtain ⟨v1, v2⟩ := DT.sK k3 (TV.qL hx hb k3 hv)
       have hcl : CL w (Gz F w π (aA s.ob)) (TY T) [y] (a.eval x).cells.toList := by
        refine ⟨by simp [v1], fun i hi cc hcc => ?_⟩
        obtain rfl : i = 0 := by simpa using hi
        obtain ⟨u, a1, a2, a3⟩ := v2 cc hcc
        exact ⟨u, by rw [Nat.zero_mul, Nat.zero_add, Array.getElem?_toList]; exact a1, a2, by simpa using a3⟩
       have hR := hm.newRow (cap := 1) hd hcl (w' := w.alloc (.cells (a.eval x).cells T)) ((Below.refl _ _).alloc (Nat.le_refl _) _) (.of (xR w _)) (fun q _ => by rw [Array.getElem?_toList]) (by rw [v1]; omega) (by simp) (by simp [maxLen])
       refine ⟨_, _, _, .inl hrun, hR, ?_⟩
       simp only [VR, List.singleton_append, aA, if_true]
       exact fun _ => ⟨0, w.heap.size, by simp [TO.loc, DT.at_nil], ⟨by simp, DT.wO _⟩, by simp [aW], by simp [aW]⟩
      ·cases h
     ·cases h
 ·cases h
end
end
section
section
variable {P : Program} {TI : Nat -> TD} {TY : Nat -> DT} {c : Cx} {F : Nat -> Prop} {s : TS} {π : Nat -> Pl} {a : Act} {w : World}
theorem run_buildSlice {T e : TypeId} {ie : TypeInfo} {z : Value} (ht : P.underlying T = some (.slice e)) (hi : P.info? e = some ie) (hz : ie.zero = some z) (hzs : z.cells.size = ie.size) (hk : 0 < ie.size) {us : List Value} (hus : ∀ u ∈ us, u.cells.size = ie.size)
  {n : Nat} (hn : n = us.length) (hbig : n * ie.size <= 2 ^ 24) {w : World} {parts : Array (Nat × Value)} (hp : parts.toList = (List.range n).zip us) :
  ∃ cur : Array Value, (Instr.buildSlice T n parts).run P w = .ok (.slice (some ⟨w.heap.size, 0, none⟩) n n) (w.alloc (.cells cur e)) /\ cur.size = n * ie.size /\ ∀ (i : Nat) (u : Value), us[i]? = some u -> ∀ j, j < ie.size -> cur.toList[i * ie.size + j]? = u.cells[j]? := by
 subst hn
 let init : Array Value := (Array.range (us.length * ie.size)).map fun i => (if us.length * ie.size = 0 then #[] else z.cells)[i % (if us.length * ie.size = 0 then #[] else z.cells).size]!
 have hinit : init.size = us.length * ie.size := by simp [init]
 have hmem : ∀ p ∈ parts.toList, ∃ i, p.1 = i /\ us[i]? = some p.2 := fun p hpm => by
  rw [hp] at hpm
  obtain ⟨q, hq, rfl⟩ := List.getElem_of_mem hpm
  simp only [List.length_zip, List.length_range] at hq
  exact ⟨q, by simp, by simp⟩
 obtain ⟨cur, h1, h2, h3⟩ := aeT (fun i => some (i * ie.size, ie.size)) parts.toList init fun p hpm => by
  obtain ⟨i, rfl, hu⟩ := hmem p hpm
  refine ⟨_, _, rfl, hus _ (List.mem_of_getElem? hu), ?_⟩
  have hlt := (List.getElem?_eq_some_iff.1 hu).1
  have : (p.1 + 1) * ie.size <= us.length * ie.size := Nat.mul_le_mul_right _ hlt
  rw [Nat.add_mul] at this
  rw [hinit]; omega
 refine ⟨cur, ?_, h2.trans hinit, fun i u hu j hj => ?_⟩
 ·have hb : ¬ (2 ^ 24 < us.length * ie.size) := by omega
  by_cases h0 : us.length * ie.size = 0
  ·have hi0 : init = #[] := by apply Array.eq_empty_of_size_eq_zero; rw [hinit]; exact h0
   rw [hi0] at h1
   simp [Instr.buildSlice, run_underlying ht, sizeOf, typeInfo, hi, zeroValue, hz, h0, newRow, h1, Array.range_zero']
  ·have hi0 : init = (Array.range (us.length * ie.size)).map fun i => z.cells[i % z.cells.size]! := by simp [init, h0]
   rw [hi0] at h1
   simp [Instr.buildSlice, run_underlying ht, sizeOf, typeInfo, hi, zeroValue, hz, h0, newRow, h1]
   simpa using hb
 ·have hlt := (List.getElem?_eq_some_iff.1 hu).1
  rw [Array.getElem?_toList, h3]
  have hin : (i, u) ∈ parts.toList := by
   rw [hp]
   refine List.mem_of_getElem? (i := i) ?_
   rw [List.getElem?_zip_eq_some]; exact ⟨by simp [hlt], hu⟩
  have := aiW (fun i => some (i * ie.size, ie.size)) (q := i * ie.size + j) (v := u) parts.toList init[i * ie.size + j]? rfl (by omega) hin fun p hpm off' sz' hpl hc => by
   obtain ⟨i', e1, hu'⟩ := hmem p hpm
   simp only [aS, bJ] at hpl
   obtain ⟨rfl, rfl⟩ := hpl
   have : p.1 = i := by
    have hc1 := hc.1
    have hc2 := hc.2
    rcases Nat.lt_trichotomy p.1 i with hlt' | heq | hgt
    ·have : (p.1 + 1) * ie.size <= i * ie.size := Nat.mul_le_mul_right _ hlt'
     rw [Nat.add_mul] at this; omega
    ·exact heq
    ·have : (i + 1) * ie.size <= p.1 * ie.size := Nat.mul_le_mul_right _ hgt
     rw [Nat.add_mul] at this; omega
   obtain ⟨pi, pv⟩ := p
   simp only at this e1 hu'
   subst this; subst e1
   rw [hu] at hu'
   simp only [aS] at hu'
   rw [hu']
  rw [this]
  congr 1
  omega
theorem Ec {α : Type} (n i : Nat) (d : α) : (List.replicate n d).getD i d = d := by
 simp only [List.getD, List.getElem?_replicate]; split <;> rfl
theorem arO (hT : dI P TI) {rc : Nat -> Option (List (Option DT))} {T n : Nat} {parts : Array (Nat × Operand)} {dst : Option Nat} {ty : TypeId} {pos : String} {after : Array Edge} {g : Option (Nat × Bool)} {e : Eff} (h : jX TI TY rc s.ev (aA s.ob) dst (.buildSlice T n parts) = some e) (hb : e.b = true) (hm : aI c F π s a w) : jR P c F s π a w ⟨dst, .buildSlice T n parts, ty, pos, after, g⟩ e := by
 simp only [jX] at h
 split at h
 ·rename_i d t TM
  split at h
  ·cases h
  ·rename_i hd
   split at h
   ·rename_i l b hl
    split at h
    ·rename_i hk
     simp only [bC, beq_iff_eq, fH] at hk
     obtain ⟨⟨⟨⟨k1, k2⟩, k3⟩, k4⟩, k5⟩ := hk
     obtain rfl := aC h
     obtain ⟨l1, l2⟩ := acK (a := a) k3 hl hb (fun x => hm.ev x)
     obtain ⟨e', ie, b1, b2, b3, b4, b5, b6, b7, b8⟩ := (hT T).sl k1
     have hlen : n = l.length := by
      have := congrArg List.length k4
      simp at this
      rw [l1]; simp [this]
     have hus : ∀ u ∈ (parts.toList.map (·.2)).map a.eval, u.cells.size = ie.size := fun u hu => by
      obtain ⟨i, hi, rfl⟩ := List.getElem_of_mem hu
      simp only [List.length_map] at hi
      rw [List.getElem_map]
      have := (DT.sK k3 (l2 i _ (List.getElem?_eq_getElem (by simpa using hi)))).1
      rw [this, b3, k2]
     have hp : (parts.map fun (i, x) => (i, a.eval x)).toList = (List.range n).zip ((parts.toList.map (·.2)).map a.eval) := by
      rw [<- k4]
      simp only [Array.toList_map, List.map_map]
      generalize parts.toList = q
      induction q with
      | nil => rfl
      | cons p q ih => simp only [List.map_cons, List.zip_cons_cons, Function.comp, ih]
     obtain ⟨cur, c1, c2, c3⟩ := run_buildSlice (P := P) (w := w) b1 b2 b5 (by rw [b6, b3]) (by omega) hus (n := n) (by rw [hlen, l1]; simp) (by rw [b3]; exact k5) hp
     have hcl : CL w (Gz F w π (aA s.ob)) t l cur.toList := by
      refine ⟨by rw [Array.length_toList, c2, hlen, b3, k2], fun i hi cc hcc => ?_⟩
      have hi' : i < (parts.toList.map (·.2)).length := by omega
      obtain ⟨v1, v2⟩ := DT.sK k3 (l2 i _ (List.getElem?_eq_getElem hi'))
      obtain ⟨u, a1, a2, a3⟩ := v2 cc hcc
      have BO : cc < ie.size := by rw [b3, k2]; exact hcc
      refine ⟨u, ?_, a2, a3⟩
      have := c3 i (a.eval (parts.toList.map (·.2))[i]) (by rw [List.getElem?_map, List.getElem?_eq_getElem hi']; rfl) cc BO
      rw [b3, k2] at this
      rw [this]; exact a1
     have hR := hm.newRow (cap := n) hd hcl (w' := w.alloc (.cells cur e')) ((Below.refl _ _).alloc (Nat.le_refl _) _) (.of (xR w _)) (fun q _ => by rw [Array.getElem?_toList]) (by rw [c2, b3, k2]; exact Nat.le_refl _) (by omega) (by
      have : 1 <= (TI T).elem := b8
      have : n * 1 <= n * (TI T).elem := Nat.mul_le_mul_left _ this
      simp only [maxLen]; omega)
     have hx : execOp a.eval ⟨some d, .buildSlice T n parts, ty, pos, after, g⟩ = (do pure (.value (<- Instr.buildSlice T n (parts.map fun (i, x) => (i, a.eval x))))) := by simp only [execOp]
     have oL : (execOp a.eval ⟨some d, .buildSlice T n parts, ty, pos, after, g⟩).run P w = .ok (.value (.slice (some ⟨w.heap.size, 0, none⟩) n n)) (w.alloc (.cells cur e')) := by
      rw [hx]; simp only [Sem.run_bind, c1, Result.andThen_ok, Sem.run_pure]
     clear hx c1 hp hus
     refine ⟨_, _, _, .inl oL, hR, ?_⟩
     simp only [VR, List.singleton_append, aA, if_true, aW, Pl.hdr, <- hlen]
    ·cases h
   ·cases h
 ·cases h
theorem azQ (hT : dI P TI) {rc : Nat -> Option (List (Option DT))} {T : Nat} {x y : Operand} {dst : Option Nat} {ty : TypeId} {pos : String} {after : Array Edge} {g : Option (Nat × Bool)} {e : Eff} (h : jX TI TY rc s.ev (aA s.ob) dst (.makeSlice T x y) = some e) (hb : e.b = true) (hm : aI c F π s a w) : jR P c F s π a w ⟨dst, .makeSlice T x y, ty, pos, after, g⟩ e := by
  simp only [jX] at h
  split at h
  · rename_i d k1 zl k2 zc hx hy
    split at h
    · cases h
    · rename_i hd
      split at h
      · rename_i fs0 hrc
        split at h
        · rename_i hk
          simp only [bC, beq_iff_eq] at hk
          obtain ⟨q1, q2⟩ := hk
          obtain rfl := aC h
          simp only [bC, fH] at hb
          obtain ⟨hb, hzz⟩ := hb
          subst hzz
          have hx' : a.eval x = .int k1 zl := hm.zC hx
          have hy' : a.eval y = .int k2 zl := hm.zC hy
          obtain ⟨h0, h1, h2, h3⟩ := Ir hb
          obtain ⟨e', ie, b1, b2, b3, b4, b5, b6, b7, b8⟩ := (hT T).sl q1
          have hrun := run_make (P := P) w T e' ie (TI T).ez b1 b2 b5 k1 k2 zl zl h0 h1 (by rw [b4]; rw [Int.mul_comm]; exact Int.le_trans h2 (by decide)) (by exact Int.le_trans h3 (by decide))
          have hms : (madeCells (TI T).ez.cells (Int.toNat zl * (TI T).elem)).size = Int.toNat zl * (TI T).elem := size_madeCells _ _
          have hR := hm.JX hd (fs := List.replicate (Int.toNat zl * (TI T).elem) .nl) (ht := .none (aD8 _)) (cur := madeCells (TI T).ez.cells (Int.toNat zl * (TI T).elem)) (e := e') fun j x hxj cc hcc => by
            have hj : j < Int.toNat zl * (TI T).elem := by have := (List.getElem?_eq_some_iff.1 hxj).1; simpa using this
            have hx0 : x = .nl := by
              rw [List.getElem?_replicate, if_pos hj] at hxj; exact (aC hxj).symm
            subst hx0
            obtain rfl : cc = 0 := by simp only [TV.size] at hcc; omega
            have Ef : ∀ (n i : Nat), i <= n -> aP (List.replicate n TV.nl) i = i := fun n => by
              induction n with
              | zero => intro i hi; obtain rfl : i = 0 := by omega
                        rfl
              | succ n ih =>
                intro i hi
                cases i with
                | zero => rfl
                | succ i => simp only [List.replicate_succ, aP, TV.size]; rw [ih i (by omega)]; omega
            rw [Ef _ _ (Nat.le_of_lt hj), Nat.add_zero]
            have hqk : j % (TI T).elem < (TI T).ez.cells.size := by rw [b6]; exact Nat.mod_lt _ b8
            refine ⟨.slice none 0 0, ?_, rfl, rfl⟩
            simp only [madeCells, Array.getElem?_map, b6]
            rw [Array.getElem?_range, if_pos hj]
            have hz : (TI T).ez.cells[j % (TI T).elem] = .slice none 0 0 := by
              have := List.all_eq_true.1 q2 ((TI T).ez.cells[j % (TI T).elem]) (by simp)
              unfold Ei at this
              split at this
              · assumption
              · cases this
            simp [hqk, hz]
          refine ⟨.slice (some ⟨w.heap.size, 0, none⟩) (Int.toNat zl) (Int.toNat zl), _, _, .inl (eP (e := Instr.makeSlice T (a.eval x) (a.eval y)) rfl ?_), hR, ?_⟩
          · rw [hx', hy', hrun, b3]
          · simp only [VR, List.singleton_append, aA, if_true]
            exact fun _ => ⟨0, w.heap.size, ⟨w.heap.size, 0, none⟩, rfl, trivial, by simp [aW], Nat.zero_le _, Nat.le_refl _, by simp only [maxLen]; omega, rfl, fun _ => by simp [aW]⟩
        · cases h
      split at h
      · rename_i t TM
        split at h
        · rename_i hk
          simp only [bC, beq_iff_eq] at hk
          obtain ⟨⟨⟨q1, q2⟩, q3⟩, q4⟩ := hk
          obtain rfl := aC h
          have hx' : a.eval x = .int k1 zl := hm.zC hx
          have hy' : a.eval y = .int k2 zc := hm.zC hy
          obtain ⟨h0, h1, h2, h3⟩ := Ir (show wU zl zc (TI T).eb = true from hb)
          obtain ⟨e', ie, b1, b2, b3, b4, b5, b6, b7, b8⟩ := (hT T).sl q1
          have hrun := run_make (P := P) w T e' ie (TI T).ez b1 b2 b5 k1 k2 zl zc h0 h1 (by rw [b4]; rw [Int.mul_comm]; exact Int.le_trans h2 (by decide)) (by exact Int.le_trans h3 (by decide))
          obtain ⟨v1, v2⟩ := DT.sK q3 (BU (w := w) (G := Gz F w π (aA s.ob)) q3 q2)
          have hms : (madeCells (TI T).ez.cells (Int.toNat zc * (TI T).elem)).size = Int.toNat zc * (TI T).elem := size_madeCells _ _
          have hle : Int.toNat zl * t.size <= Int.toNat zc * t.size := Nat.mul_le_mul_right _ (Int.toNat_le_toNat h1)
          have hget : ∀ q, q < Int.toNat zl * t.size -> (madeCells (TI T).ez.cells (Int.toNat zc * (TI T).elem))[q]? = (TI T).ez.cells[q % t.size]? := fun q hq => by
            have hpos : 0 < t.size := by rw [<- q4]; exact b8
            have hqk : q % t.size < (TI T).ez.cells.size := by rw [v1]; exact Nat.mod_lt _ hpos
            simp only [madeCells, Array.getElem?_map, v1]
            rw [Array.getElem?_range, if_pos (by rw [q4]; omega)]
            simp [hqk]
          have hcl : CL w (Gz F w π (aA s.ob)) t (List.replicate (Int.toNat zl) t.dflt) ((madeCells (TI T).ez.cells (Int.toNat zc * (TI T).elem)).toList.take (Int.toNat zl * t.size)) := by
            refine ⟨by rw [List.length_take, Array.length_toList, hms, q4, List.length_replicate]; omega, fun i hi cc hcc => ?_⟩
            simp only [List.length_replicate] at hi
            obtain ⟨u, a1, a2, a3⟩ := v2 cc hcc
            refine ⟨u, ?_, a2, ?_⟩
            · rw [List.getElem?_take_of_lt (ED hi hcc), Array.getElem?_toList, hget _ (ED hi hcc), Nat.mul_comm, Nat.mul_add_mod, Nat.mod_eq_of_lt hcc]
              exact a1
            · rw [Ec]; exact a3
          have hR := hm.newRow (cap := Int.toNat zc) hd hcl (w' := w.alloc (.cells (madeCells (TI T).ez.cells (Int.toNat zc * (TI T).elem)) e')) ((Below.refl _ _).alloc (Nat.le_refl _) _) (.of (xR w _)) (fun q hq => by
            rw [hcl.len, List.length_replicate] at hq
            rw [List.getElem?_take_of_lt hq, Array.getElem?_toList]) (by rw [hms, q4]; exact Nat.le_refl _) (by simp; omega) (by simp only [maxLen]; omega)
          refine ⟨.slice (some ⟨w.heap.size, 0, none⟩) (Int.toNat zl) (Int.toNat zc), _, _, .inl (eP (e := Instr.makeSlice T (a.eval x) (a.eval y)) rfl ?_), hR, ?_⟩
          · rw [hx', hy', hrun, b3]
          · simp only [VR, List.singleton_append, aA, if_true, aW, Pl.hdr, List.length_replicate]
        · cases h
      · cases h
  · cases h
theorem alQ {t : DT} {d : TD} {G : Nat -> Prop} {O : bF} {ev : Operand -> TV} (hv : ∀ x, VR w G π O (ev x) (a.eval x)) : ∀ {l : List (Nat × Operand)} {z x : t.den} {b : Bool} {cells : Array Value}, zQ ev O t d l z = some (x, b) -> b = true -> cells.size = t.size -> (∀ cc, cc < t.size -> ∃ u, cells[cc]? = some u /\ u.oneCell' = true /\ t.cell z cc w G u) ->
  ∃ cells', Instr.fill (placeOf d) cells (l.map fun p => (p.1, a.eval p.2)) = some cells' /\ cells'.size = t.size /\ ∀ cc, cc < t.size -> ∃ u, cells'[cc]? = some u /\ u.oneCell' = true /\ t.cell x cc w G u
 | [], z, x, b, cells, h, hb, hs, hz => by
  simp only [zQ, aS, bJ] at h
  obtain ⟨rfl, _⟩ := h
  exact ⟨cells, rfl, hs, hz⟩
 | (i, o) :: r, z, x, b, cells, h, hb, hs, hz => by
  simp only [zQ] at h
  split at h
  ·rename_i L hL
   split at h
   ·rename_i y b1 hy
    split at h
    ·rename_i hok
     simp only [bC, beq_iff_eq] at hok
     obtain ⟨⟨⟨h1, h2⟩, h3⟩, h4⟩ := hok
     split at h
     ·rename_i v b2 hr
      simp only [aS, bJ] at h
      obtain ⟨rfl, rfl⟩ := h
      simp only [bC] at hb
      have afF := DT.UE h2
      obtain ⟨c1, c2⟩ := DT.DW hL afF
      have hput := DT.Oi hL afF z y h3
      obtain ⟨v1, v2⟩ := DT.sK h1 (TV.qL hy hb.1 h1 (hv o))
      have hf := TC L.off (a.eval o).cells.toList 0 cells (by simp [v1]; omega)
      have e : (a.eval o).cells.zipIdx.foldl (fun cs (c, j) => cs.setIfInBounds (L.off + j) c) cells = ((a.eval o).cells.toList.zipIdx 0).foldl (fun cs p => cs.setIfInBounds (L.off + p.2) p.1) cells := by
       rw [<- Array.foldl_toList, Array.toList_zipIdx]
      obtain ⟨cells', g1, g2, g3⟩ := alQ (cells := ((a.eval o).cells.toList.zipIdx 0).foldl (fun cs p => cs.setIfInBounds (L.off + p.2) p.1) cells) hv hr hb.2 (hf.1.trans hs) fun cc hcc => by
       rw [hf.2 cc, hput cc hcc]
       by_cases hq : L.off <= cc /\ cc < L.off + L.u.size
       ·obtain ⟨u, a1, a2, a3⟩ := v2 (cc - L.off) (by omega)
        rw [if_pos hq, if_pos (by simp [v1]; omega)]
        exact ⟨u, by simp only [Nat.add_zero, Array.getElem?_toList]; exact a1, a2, a3⟩
       ·rw [if_neg hq, if_neg (by simp [v1]; omega)]
        exact hz cc hcc
      refine ⟨cells', ?_, g2, g3⟩
      simp only [List.map_cons, Instr.fill, h4]
      rw [if_neg (by simp [v1, hs]; omega), e]
      exact g1
     ·cases h
    ·cases h
   ·cases h
  ·cases h
theorem arP (hT : dI P TI) {rc : Nat -> Option (List (Option DT))} {T : Nat} {parts : Array (Nat × Operand)} {dst : Option Nat} {ty : TypeId} {pos : String} {after : Array Edge} {g : Option (Nat × Bool)} {e : Eff} (h : jX TI TY rc s.ev (aA s.ob) dst (.build T parts) = some e) (hb : e.b = true) (hm : aI c F π s a w) : jR P c F s π a w ⟨dst, .build T parts, ty, pos, after, g⟩ e := by
 simp only [jX] at h
 split at h
 ·rename_i z b hf
  split at h
  ·rename_i hk
   simp only [bC, Bool.or_eq_true, beq_iff_eq] at hk
   obtain ⟨⟨⟨⟨k1, k2⟩, k3⟩, k4⟩, k5⟩ := hk
   obtain rfl := aC h
   obtain ⟨i, h1, h2, h3⟩ := (hT T).info (by omega)
   obtain ⟨v1, v2⟩ := DT.sK k3 (BU (w := w) (G := Gz F w π (aA s.ob)) k3 k5)
   obtain ⟨cells, c1, c2, c3⟩ := alQ (π := π) (O := aA s.ob) (fun x => hm.ev x) hf hb v1 v2
   have TP : P.built T (parts.map fun (i, x) => (i, a.eval x)).toList = some cells := by
    have e0 : (parts.map fun (i, x) => (i, a.eval x)).toList = parts.toList.map fun p => (p.1, a.eval p.2) := by simp
    rw [e0]
    unfold Program.built
    rcases k1 with k1 | k1
    ·obtain ⟨e, ie, b1, b2, b3⟩ := (hT T).arr k1
     simp only [h1, b1, h3, b2]
     have : placeOf (TI T) = fun i => some (i * ie.size, ie.size) := by simp [placeOf, k1, b3]
     rw [<- this]; exact c1
    ·obtain ⟨fs, b1, b2⟩ := (hT T).uU k1
     simp only [h1, b1, h3, b2]
     have : placeOf (TI T) = fun i => (TI T).aP.toArray[i]? := by funext i; simp [placeOf, k1]
     rw [<- this]; exact c1
   have hx : execOp a.eval ⟨dst, .build T parts, ty, pos, after, g⟩ = (do pure (.value (<- Instr.build T (parts.map fun (i, x) => (i, a.eval x))))) := by simp only [execOp]
   have oL : (execOp a.eval ⟨dst, .build T parts, ty, pos, after, g⟩).run P w = .ok (.value (.agg cells)) w := by
    rw [hx]; simp only [Sem.run_bind, run_build w T _ cells TP, Result.andThen_ok, Sem.run_pure]
   clear hx TP
   exact ⟨_, _, π, .inl oL, hm, (DT.oG k2).2 ⟨cells, rfl, c2, c3⟩⟩
  ·cases h
 ·cases h
theorem aDW (l vs : List Value) (o q : Nat) (h : o + vs.length <= l.length) : (l.take o ++ vs ++ l.drop (o + vs.length))[q]? = if o <= q /\ q < o + vs.length then vs[q - o]? else l[q]? := by
 by_cases h1 : q < o
 ·rw [if_neg (by omega), List.append_assoc, List.getElem?_append_left (by simp; omega), List.getElem?_take_of_lt h1]
 ·by_cases h2 : q < o + vs.length
  ·rw [if_pos ⟨by omega, h2⟩, List.append_assoc, List.getElem?_append_right (by simp; omega), List.getElem?_append_left (by simp; omega)]
   congr 1
   simp; omega
  ·rw [if_neg (by omega), List.getElem?_append_right (by simp; omega), List.getElem?_drop]
   congr 1
   simp; omega
def jB (cur : Array Value) (k : Nat) (vs : List Value) : Array Value := (cur.toList.take k ++ vs ++ cur.toList.drop (k + vs.length)).toArray
theorem KD (cur : Array Value) (k q : Nat) (vs : List Value) (h : k + vs.length <= cur.size) : (jB cur k vs)[q]? = if k <= q /\ q < k + vs.length then vs[q - k]? else cur[q]? := by
 unfold jB
 rw [List.getElem?_toArray, aDW _ _ _ _ (by simp; omega)]
 simp
theorem vX (cur : Array Value) (k : Nat) (vs : List Value) (h : k + vs.length <= cur.size) : (jB cur k vs).size = cur.size := by
 unfold jB
 simp only [List.size_toArray, List.length_append, List.length_take, List.length_drop, Array.length_toList]; omega
theorem GZ {g : Nat} {old cs : Array Value} {t : TypeId} (h : kQ w g old t) (hs : cs.size = old.size) : kQ (w.setRow g cs) g cs t := by
 obtain ⟨z, h1, h2⟩ := h
 exact ⟨z, setRow_heap w g old cs t z h1, by rw [hs]; exact h2⟩
theorem Jv (P : Program) (g o : Nat) (t : TypeId) : ∀ (vs : List Value) (i : Nat) (cur : Array Value) (w : World), kQ w g cur t -> o + i + vs.length <= cur.size -> (∀ v ∈ vs, v.oneCell' = true) ->
  (storeCells ⟨g, o, none⟩ vs i).run P w = .ok () (w.setRow g (cur.toList.take (o + i) ++ vs ++ cur.toList.drop (o + i + vs.length)).toArray)
 | [], i, cur, w, hg, _, _ => by
  obtain ⟨z, hg, _⟩ := hg
  simp only [storeCells, List.append_nil, List.length_nil, Nat.add_zero, List.take_append_drop, Array.toArray_toList]
  rw [setRow_self w g cur t z hg]
  rfl
 | v :: rest, i, cur, w, hg0, hl, h1 => by
  obtain ⟨fz, hg, hfz⟩ := id hg0
  have hi : o + i < cur.size := by simp at hl; omega
  have hadd : (⟨g, o, none⟩ : Addr).add i = ⟨g, o + i, none⟩ := by unfold Addr.add; split <;> simp_all
  have hcell : w.cell? ⟨g, o + i, none⟩ = some cur[o + i] := by simp [World.cell?, hg, hi]
  have hfro : w.frozen? ⟨g, o + i, none⟩ = false := by
   obtain ⟨lo, hi'⟩ := fz
   simp only [World.frozen?, hg, Bool.and_eq_false_iff, decide_eq_false_iff_not]
   rcases hfz with hfz | hfz
   ·simp only [bJ] at hfz; right; omega
   ·left; simp only at hfz; omega
  have hst : (store ((⟨g, o, none⟩ : Addr).add i) v).run P w = .ok () (w.setRow g (cur.setIfInBounds (o + i) v)) := by
   rw [hadd, Go.run_store P w _ v _ (h1 v (by simp)), hcell]
   simp [hfro, setCell_eq_setRow w g (o + i) cur t fz v hg]
  have ih := Jv P g o t rest (i + 1) (cur.setIfInBounds (o + i) v) (w.setRow g (cur.setIfInBounds (o + i) v)) (GZ hg0 (by simp)) (by simp at hl ⊢; omega) (fun x hx => h1 x (by simp [hx]))
  simp only [storeCells, Sem.run_bind, hst, Result.andThen_ok, ih, setRow_setRow]
  congr 3
  have e := list_seg_step cur.toList (o + i) v rest (by simp at hl ⊢; omega)
  simpa [Array.toList_setIfInBounds, Nat.add_assoc] using e
theorem run_store (hT : dI P TI) {T : TypeId} (hk : (TI T).kd ≠ 0) {g k : Nat} {e : TypeId} {v : Value} {cur : Array Value} (hsz : v.cells.size = (TI T).size) (h1 : ∀ u ∈ v.cells, u.oneCell' = true) (hg : kQ w g cur e) (hfit : k + v.cells.toList.length <= cur.size) :
  (Instr.storeAt T (.pointer (some ⟨g, k, none⟩)) v).run P w = .ok () (w.setRow g (jB cur k v.cells.toList)) := by
 have hst := Jv P g k e v.cells.toList 0 cur w hg (by simpa using hfit) (fun q hq => h1 q (by simpa using hq))
 simp only [Nat.add_zero] at hst
 have hso := ak' hT hk w
 unfold jB
 simp [Instr.storeAt, Instr.sureAddr, storeVar, hso, hsz, hst]
theorem aI.write (hm : aI c F π s a w) {id g : Nat} {o o' : TO} (ho : aA s.ob id = some o) (hg : (π id).g = some g) {cur cur' : Array Value} {e : TypeId} (hc : kQ w g cur e) (hsh : qO o o')
  (hl : o.live = true) (hl' : o'.live = true) (hor : ∀ G' O', fG w (Gz F w π (aA s.ob)) (w.setRow g cur') G' -> gK w (Gz F w π (aA s.ob)) π (aA s.ob) (w.setRow g cur') G' π O' -> OR (w.setRow g cur') G' π O' id o') : aI c F π ⟨s.sl, (id, o') :: s.ob⟩ a (w.setRow g cur') := by
 have E := gK.set (F := F) (w' := w.setRow g cur') ho hg hl hl' (fun G' => Step.Ja hsh) (fun b hb => setRow_other w g b cur' hb) (by simp) hsh.OE.2
 exact hm.set ho hg hl hl' (fun G' => Step.Ja hsh) (fun b hb => setRow_other w g b cur' hb) (by simp) ⟨rfl, rfl, rfl⟩ (hor _ _ E.fz E) hsh.OE.2
theorem aI.writeRow (hm : aI c F π s a w) {id i : Nat} {t : DT} {l : List t.den} (ho : aA s.ob id = some (.row t l)) {p : List Nat} {N : Lens t} (hN : t.at p = some N) (hib : t.inb p) (hi : i < l.length) {z : N.u.den} (hf : N.fits (l.getD i t.dflt) = true) {v : Value} (hpl : N.u.plain = true) (hv : N.u.val z w (Gz F w π (aA s.ob)) v)
  {g : Nat} (hg : (π id).g = some g) : ∃ cur e, kQ w g cur e /\ (π id).q + (i * t.size + N.off) + v.cells.toList.length <= cur.size /\
   aI c F π ⟨s.sl, (id, .row t (l.set i (N.put (l.getD i t.dflt) z))) :: s.ob⟩ a (w.setRow g (jB cur ((π id).q + (i * t.size + N.off)) v.cells.toList)) := by
 obtain ⟨n1, n2⟩ := DT.DW hN hib
 have hput := DT.Oi hN hib (l.getD i t.dflt) z hf
 obtain ⟨v1, v2⟩ := DT.sK hpl hv
 rcases hm.obj id _ ho with ⟨h1, h2⟩ | ⟨g', cur, e, h1, h2, h3, h4, h5, h6⟩
 ·rw [h1] at hg; cases hg
 ·rw [hg] at h1; obtain rfl := aC h1
  have hle : i * t.size + t.size <= (π id).cap * t.size := by
   have := Nat.mul_le_mul_right t.size (show i + 1 <= (π id).cap by omega)
   rw [Nat.add_mul] at this; omega
  have hfit : (π id).q + (i * t.size + N.off) + v.cells.toList.length <= cur.size := by simp [v1]; omega
  refine ⟨cur, e, h2, hfit, hm.write ho hg h2 ⟨rfl, by simp⟩ rfl rfl fun G' O' hz _ => .inr ⟨g, _, e, hg, GZ h2 (vX _ _ _ hfit), by simpa using h3, h4, by rw [vX _ _ _ hfit]; exact h5, fun j hj cc hcc => ?_⟩⟩
  simp only [List.length_set] at hj
  rw [KD _ _ _ _ hfit]
  by_cases hij : j = i
  ·subst hij
   rw [Rw _ _ _ _ hi, hput cc hcc]
   by_cases hq : N.off <= cc /\ cc < N.off + N.u.size
   ·obtain ⟨u, a1, a2, a3⟩ := v2 (cc - N.off) (by omega)
    rw [if_pos hq, if_pos (by simp [v1]; omega)]
    exact ⟨u, by rw [Array.getElem?_toList, <- a1]; congr 1; omega, a2, DT.iE hz a3⟩
   ·rw [if_neg hq, if_neg (by simp [v1]; omega)]
    obtain ⟨u, a1, a2, a3⟩ := h6 j hj cc hcc
    exact ⟨u, a1, a2, DT.iE hz a3⟩
  ·rw [getD_set_ne _ _ _ _ _ (fun e => hij e.symm)]
   have hne : ¬ ((π id).q + (i * t.size + N.off) <= (π id).q + j * t.size + cc /\ (π id).q + j * t.size + cc < (π id).q + (i * t.size + N.off) + v.cells.toList.length) := by
    rintro ⟨x1, x2⟩
    simp only [Array.length_toList, v1] at x2
    rcases Nat.lt_trichotomy j i with hlt | heq | hgt
    ·have : (j + 1) * t.size <= i * t.size := Nat.mul_le_mul_right _ hlt
     rw [Nat.add_mul] at this; omega
    ·exact hij heq
    ·have : (i + 1) * t.size <= j * t.size := Nat.mul_le_mul_right _ hgt
     rw [Nat.add_mul] at this; omega
   rw [if_neg hne]
   obtain ⟨u, a1, a2, a3⟩ := h6 j hj cc hcc
   exact ⟨u, a1, a2, DT.iE hz a3⟩
theorem Yh : ∀ (fs : List TV) (j k : Nat) (y : TV), (∀ x, fs[j]? = some x -> y.size = x.size) -> aP (fs.set j y) k = aP fs k
 | [], j, k, y, h => by simp
 | x :: r, 0, 0, y, h => rfl
 | x :: r, 0, k + 1, y, h => by simp only [List.set_cons_zero, aP]; rw [h x rfl]
 | x :: r, j + 1, 0, y, h => rfl
 | x :: r, j + 1, k + 1, y, h => by
  simp only [List.set_cons_succ, aP]
  rw [Yh r j k y fun z hz => h z (by simpa using hz)]
theorem JZ : ∀ {fs : List TV} {j k : Nat} {x : TV}, fs[j]? = some x -> j < k -> aP fs j + x.size <= aP fs k \/ fs.length < k
 | [], j, k, x, h, _ => by simp at h
 | y :: r, 0, k + 1, x, h, _ => by simp at h; subst h; left; simp only [aP]; omega
 | y :: r, j + 1, k + 1, x, h, hjk => by
  simp at h
  rcases JZ h (show j < k by omega) with h' | h'
  ·left; simp only [aP]; omega
  ·right; simp; omega
theorem aiG {fs : List TV} {j k : Nat} {x y : TV} (hj : fs[j]? = some x) (hk : fs[k]? = some y) (hne : j ≠ k) : aP fs j + x.size <= aP fs k \/ aP fs k + y.size <= aP fs j := by
 have lj := (List.getElem?_eq_some_iff.1 hj).1
 have lk := (List.getElem?_eq_some_iff.1 hk).1
 rcases Nat.lt_trichotomy j k with h | h | h
 ·rcases JZ hj h with h' | h'
  ·exact .inl h'
  ·omega
 ·exact absurd h hne
 ·rcases JZ hk h with h' | h'
  ·exact .inr h'
  ·omega
theorem af0 : ∀ {fs fs' : List TV}, vN fs fs' = true -> fs'.length = fs.length /\ ∀ (j : Nat) (x : TV), fs[j]? = some x -> ∃ y, fs'[j]? = some y /\ EF x y = true
 | [], [], _ => ⟨rfl, fun j x h => by simp at h⟩
 | [], _ :: _, h => by simp [vN] at h
 | _ :: _, [], h => by simp [vN] at h
 | x :: r, y :: r', h => by
  simp only [vN, bC] at h
  obtain ⟨h1, h2⟩ := af0 h.2
  refine ⟨by simp [h1], fun j z hz => ?_⟩
  cases j with
  | zero => simp at hz; subst hz; exact ⟨y, rfl, h.1⟩
  | succ j => obtain ⟨y', a, b⟩ := h2 j z (by simpa using hz); exact ⟨y', by simpa using a, b⟩
theorem EK : ∀ (fs : List TV) (m j : Nat), j <= m -> aP (fs.take m) j = aP fs j
  | [], m, j, h => by simp
  | x :: r, 0, j, h => by obtain rfl : j = 0 := by omega
                          simp [aP]
  | x :: r, m + 1, 0, h => rfl
  | x :: r, m + 1, j + 1, h => by simp only [List.take_succ_cons, aP]; rw [EK r m j (by omega)]
theorem JY : ∀ (fs : List TV) (m j : Nat), m <= fs.length -> aP fs (m + j) = aP fs m + aP (fs.drop m) j
 | fs, 0, j, h => by simp only [Nat.zero_add, List.drop_zero, show aP fs 0 = 0 by cases fs <;> rfl]
 | [], m + 1, j, h => by simp at h
 | x :: r, m + 1, j, h => by
  rw [show m + 1 + j = (m + j) + 1 by omega]
  simp only [aP, List.drop_succ_cons]
  rw [JY r m j (by simpa using h)]
  omega
theorem Jc : ∀ (fs : List TV) (k : Nat), k < aP fs fs.length -> ∃ j x cc, fs[j]? = some x /\ cc < x.size /\ k = aP fs j + cc
 | [], k, h => by simp [aP] at h
 | x :: r, k, h => by
  by_cases q : k < x.size
  ·exact ⟨0, x, k, rfl, q, by simp [aP]⟩
  ·simp only [List.length_cons, aP] at h
   obtain ⟨j, y, cc, a, b, e⟩ := Jc r (k - x.size) (by omega)
   exact ⟨j + 1, y, cc, by simpa using a, b, by simp only [aP]; omega⟩
theorem aI.Zt (hm : aI c F π s a w) {id j : Nat} {fs : List TV} (ho : aA s.ob id = some (.aV fs)) {x y : TV} (hj : fs[j]? = some x) (hys : y.size = x.size) (hfl : ∀ o p c, x.iF o p = some c -> x.nU p -> y.iF o p = some c /\ y.nU p) {off : Nat} {vs : List Value} (hoff : off + vs.length <= x.size)
  (h1 : ∀ u ∈ vs, u.oneCell' = true) (hy : ∀ cc, cc < y.size -> (off <= cc /\ cc < off + vs.length -> ∃ u, vs[cc - off]? = some u /\ y.mG w (Gz F w π (aA s.ob)) π (aA s.ob) cc u) /\ (¬ (off <= cc /\ cc < off + vs.length) -> ∀ u, x.mG w (Gz F w π (aA s.ob)) π (aA s.ob) cc u -> y.mG w (Gz F w π (aA s.ob)) π (aA s.ob) cc u))
  {g : Nat} (hg : (π id).g = some g) (hnil : 0 < vs.length) : ∃ cur e, kQ w g cur e /\ (π id).q + (aP fs j + off) + vs.length <= cur.size /\
   aI c F π ⟨s.sl, (id, .aV (fs.set j y)) :: s.ob⟩ a (w.setRow g (jB cur ((π id).q + (aP fs j + off)) vs)) := by
 obtain ⟨g', cur, e, q1, q2, q3⟩ := hm.obj id _ ho
 rw [hg] at q1; obtain rfl := aC q1
 have hlast : ∃ u, cur[(π id).q + aP fs j + (off + vs.length - 1)]? = some u := by
  obtain ⟨u, a1, _⟩ := q3 j x hj (off + vs.length - 1) (by omega)
  exact ⟨u, a1⟩
 have hfit : (π id).q + (aP fs j + off) + vs.length <= cur.size := by
  obtain ⟨u, hu⟩ := hlast
  have := (Array.getElem?_eq_some_iff.1 hu).1
  omega
 have hjl := (List.getElem?_eq_some_iff.1 hj).1
 have hos := fun k => Yh fs j k y (fun z hz => by rw [hj] at hz; obtain rfl := aC hz; exact hys)
 have hwh := q2.2.on (fs' := fs.set j y) (cur' := jB cur ((π id).q + (aP fs j + off)) vs) (aD9 hj (by omega) (by omega)) (vX _ _ _ hfit) (by rw [List.length_set, hos])
 have q2 := q2.1
 refine ⟨cur, e, q2, hfit, hm.write ho hg q2 ⟨by simp, fun k z hz => ?_⟩ rfl rfl fun G' O' hz E => ⟨g, _, e, hg, ⟨GZ q2 (vX _ _ _ hfit), hwh⟩, fun k z hz cc hcc => ?_⟩⟩
 ·by_cases hkj : k = j
  ·subst hkj
   rw [hj] at hz; obtain rfl := aC hz
   exact ⟨y, by simp [hjl], hys, hfl⟩
  ·exact ⟨z, by rw [List.getElem?_set_ne (fun e => hkj e.symm)]; exact hz, rfl, fun _ _ _ a b => ⟨a, b⟩⟩
 ·rw [hos, KD _ _ _ _ hfit]
  by_cases hkj : k = j
  ·subst hkj
   simp only [List.getElem?_set_self hjl, aS] at hz
   subst hz
   obtain ⟨b1, b2⟩ := hy cc hcc
   by_cases hq : off <= cc /\ cc < off + vs.length
   ·obtain ⟨u, a1, a2⟩ := b1 hq
    rw [if_pos (by omega)]
    exact ⟨u, by rw [<- a1]; congr 1; omega, h1 u (List.mem_of_getElem? a1), TV.NG E a2⟩
   ·rw [if_neg (by omega)]
    obtain ⟨u, a1, a2, a3⟩ := q3 k x hj cc (by omega)
    exact ⟨u, a1, a2, TV.NG E (b2 hq u a3)⟩
  ·rw [List.getElem?_set_ne (fun e => hkj e.symm)] at hz
   have hap := aiG hj hz (fun e => hkj e.symm)
   rw [if_neg (by omega)]
   obtain ⟨u, a1, a2, a3⟩ := q3 k z hz cc hcc
   exact ⟨u, a1, a2, TV.NG E a3⟩
theorem UG {x y : TV} (h : EF x y = true) : y.size = x.size /\ ∀ o p c, x.iF o p = some c -> x.nU p -> y.iF o p = some c /\ y.nU p := by
 have small : ∀ o p c, (p = [] /\ c = o) -> y.iF o p = some c /\ y.nU p := fun o p c ⟨e1, e2⟩ => by
  subst e1; subst e2
  cases y <;> simp [TV.iF, TV.nU, DT.at_nil, DT.wO]
 cases x with
 | dv t z =>
  simp only [EF] at h
  split at h
  ·cases y with
   | dv u z' => simp only [fH] at h; subst h; exact ⟨rfl, fun o p c h1 h2 => ⟨h1, h2⟩⟩
   | _ => cases h
  ·rename_i ha
   simp only [bC] at h
   have hys : y.size = 1 := by simpa using h.1.2
   have hts : t.size = 1 := by simpa using h.1.1
   have hna : t.agg = false := by simpa using ha
   have hp0 : ∀ o p c, (TV.dv t z).iF o p = some c -> p = [] /\ c = o := fun o p c hl => by
    simp only [TV.iF] at hl
    obtain ⟨L, hL, hc⟩ := Option.map_eq_some_iff.1 hl
    have : p = [] := by
     cases p with
     | nil => rfl
     | cons i p => cases t <;> first | (simp [DT.agg] at hna; done) | simp [DT.at] at hL
    subst this
    rw [DT.at_nil] at hL; obtain rfl := aC hL
    exact ⟨rfl, by simpa using hc.symm⟩
   exact ⟨by rw [hys]; exact hts.symm, fun o p c h1 _ => small o p c (hp0 o p c h1)⟩
 | _ =>
  simp only [EF, bC] at h
  refine ⟨(of_decide_eq_true h.1 : y.size = 1), fun o p c h1 _ => small o p c ?_⟩
  simp only [TV.iF] at h1
  cases p with
  | nil => exact ⟨rfl, by simpa using h1.symm⟩
  | cons i p => cases h1
theorem ax8 {x y : TV} (h : EF x y = true) : y.tag = x.tag := by
 cases x with
 | dv t z =>
  simp only [EF] at h
  split at h
  ·cases y with
   | dv u z' => simp only [fH] at h; subst h; rfl
   | _ => cases h
  ·rename_i ha
   simp only [bC, fH] at h
   rw [KH (x := y) (by omega), KH (x := .dv t z) (by show 0 < t.size; omega)]
 | _ =>
  simp only [EF, bC, fH] at h
  rw [KH (x := y) (by omega)]; rfl
theorem af1 : ∀ {fs fs' : List TV}, vN fs fs' = true -> mW fs' = mW fs
 | [], [], _ => rfl
 | [], _ :: _, h => by simp [vN] at h
 | _ :: _, [], h => by simp [vN] at h
 | x :: r, y :: r', h => by
  simp only [vN, bC] at h
  have ih := af1 h.2
  cases r with
  | nil => cases r' with
   | nil => simp [mW, ax8 h.1]
   | cons _ _ => simp [vN] at h
  | cons a b => cases r' with
   | nil => simp [vN] at h
   | cons c d => simpa [mW] using ih
theorem aI.writeAll (hm : aI c F π s a w) {id : Nat} {fs fs' : List TV} (ho : aA s.ob id = some (.aV fs)) (hk : vN fs fs' = true) {vs : List Value} (h1 : ∀ u ∈ vs, u.oneCell' = true) (hn : aP fs' fs'.length = vs.length)
  (hy : ∀ (j : Nat) (y : TV), fs'[j]? = some y -> ∀ cc, cc < y.size -> ∃ u, vs[aP fs' j + cc]? = some u /\ y.mG w (Gz F w π (aA s.ob)) π (aA s.ob) cc u) {g : Nat} (hg : (π id).g = some g) (hnil : 0 < vs.length) :
  ∃ cur e, kQ w g cur e /\ (π id).q + 0 + vs.length <= cur.size /\ aI c F π ⟨s.sl, (id, .aV fs') :: s.ob⟩ a (w.setRow g (jB cur ((π id).q + 0) vs)) := by
 obtain ⟨g', cur, e, q1, q2, q3⟩ := hm.obj id _ ho
 rw [hg] at q1; obtain rfl := aC q1
 obtain ⟨hl, hkk⟩ := af0 hk
 have hos := Jd hl fun j x hx => let ⟨y, a, b⟩ := hkk j x hx; ⟨y, a, (UG b).1⟩
 have hfit : (π id).q + 0 + vs.length <= cur.size := by
  obtain ⟨j, y, cc, a1, a2, a3⟩ := Jc fs' (vs.length - 1) (by omega)
  have hj : j < fs.length := by have := (List.getElem?_eq_some_iff.1 a1).1; omega
  obtain ⟨y', b1, b2⟩ := hkk j fs[j] (by simp [hj])
  rw [a1] at b1; obtain rfl := aC b1
  obtain ⟨u, c1, _⟩ := q3 j fs[j] (by simp [hj]) cc (by have := (UG b2).1; omega)
  have := (Array.getElem?_eq_some_iff.1 c1).1
  rw [hos] at a3
  omega
 have hwh := q2.2.on (fs' := fs') (cur' := jB cur ((π id).q + 0) vs) (af1 hk) (vX _ _ _ hfit) (by rw [hl, hos])
 have q2 := q2.1
 refine ⟨cur, e, q2, hfit, hm.write ho hg q2 ⟨hl, fun k z hz => ?_⟩ rfl rfl fun G' O' hz E => ⟨g, _, e, hg, ⟨GZ q2 (vX _ _ _ hfit), hwh⟩, fun k z hz cc hcc => ?_⟩⟩
 ·obtain ⟨y, a1, a2⟩ := hkk k z hz
  exact ⟨y, a1, (UG a2).1, (UG a2).2⟩
 ·obtain ⟨u, a1, a2⟩ := hy k z hz cc hcc
  rw [KD _ _ _ _ hfit]
  have hlt := (List.getElem?_eq_some_iff.1 a1).1
  rw [if_pos (by omega)]
  exact ⟨u, by rw [<- a1]; congr 1; omega, h1 u (List.mem_of_getElem? a1), TV.NG E a2⟩
theorem aD3 (hT : dI P TI) {rc : Nat -> Option (List (Option DT))} {T : Nat} {x y : Operand} {dst : Option Nat} {ty : TypeId} {pos : String} {after : Array Edge} {g : Option (Nat × Bool)} {e : Eff} (h : jX TI TY rc s.ev (aA s.ob) dst (.store T x y) = some e) (hb : e.b = true) (hm : aI c F π s a w) : jR P c F s π a w ⟨dst, .store T x y, ty, pos, after, g⟩ e := by
 simp only [jX] at h
 split at h
 ·rename_i id i q hx
  split at h
  ·rename_i o ho
   split at h
   ·rename_i o' b hp
    obtain rfl := aC h
    have hb : b = true := hb
    have hvp := hm.ev x
    have gB := hm.ev y
    rw [hx] at hvp
    have fin : ∀ {g0 k : Nat} {cur : Array Value} {e0 : TypeId}, (TI T).kd ≠ 0 -> a.eval x = .pointer (some ⟨g0, k, none⟩) -> (a.eval y).cells.size = (TI T).size -> (∀ u ∈ (a.eval y).cells, u.oneCell' = true) -> kQ w g0 cur e0 -> k + (a.eval y).cells.toList.length <= cur.size ->
      aI c F π ⟨s.sl, (id, o') :: s.ob⟩ a (w.setRow g0 (jB cur k (a.eval y).cells.toList)) -> jR P c F s π a w ⟨none, .store T x y, ty, pos, after, g⟩ ⟨.any, [(id, o')], b⟩ := fun hk he hs h1 hc hf hR => by
     refine ⟨undef, _, π, .inr ⟨?_, rfl⟩, hR, trivial⟩
     have hrun := run_store (P := P) hT hk hs h1 hc hf
     rw [<- he] at hrun
     simp [execOp, hrun]
    have flat : ∀ {t : DT} {z : t.den}, t.plain = true -> t.val z w (Gz F w π (aA s.ob)) (a.eval y) -> ∀ u ∈ (a.eval y).cells, u.oneCell' = true := fun {t z} hp hv u hu => by
     obtain ⟨v1, v2⟩ := DT.sK hp hv
     obtain ⟨i, hi, rfl⟩ := Array.getElem_of_mem hu
     obtain ⟨u', a1, a2, _⟩ := v2 i (by omega)
     rw [Array.getElem?_eq_getElem hi] at a1
     rw [aC a1]; exact a2
    simp only [VR, ho] at hvp
    cases o with
    | row t l =>
     simp only [TO.EO] at hp
     split at hp
     ·rename_i N hN
      split at hp
      ·rename_i z b1 hz
       split at hp
       ·rename_i hk
        simp only [bC, bne_iff_ne, ne_eq, beq_iff_eq] at hk
        simp only [aS, bJ] at hp
        obtain ⟨rfl, rfl⟩ := hp
        simp only [bC] at hb
        obtain ⟨k, g0, h1, h2, h3, h4⟩ := hvp rfl
        simp only [TO.loc, hN, Option.map_some, aS] at h1
        subst h1
        have hval := TV.qL hz hb.1 hk.1.2 gB
        obtain ⟨cur, e0, c1, c2, c3⟩ := hm.writeRow ho hN h2.2 h2.1 hb.2 hk.1.2 hval h3
        exact fin hk.1.1 h4 (by rw [(DT.sK hk.1.2 hval).1, hk.2]) (flat hk.1.2 hval) c1 c2 c3
       ·cases hp
      ·cases hp
     ·cases hp
    | aV fs =>
     cases q with
     | nil =>
      simp only [TO.EO] at hp
      split at hp
      ·rename_i t z hy
       split at hp
       ·rename_i hk
        simp only [bC, bne_iff_ne, ne_eq, beq_iff_eq, fH] at hk
        simp only [aS, bJ] at hp
        obtain ⟨rfl, rfl⟩ := hp
        obtain ⟨⟨k1, ⟨k2, k3⟩, k4⟩, k5, k6⟩ := hk
        subst k1
        obtain ⟨k, g0, h1, h2, h3, h4⟩ := hvp rfl
        simp only [TO.loc, aS] at h1
        subst h1
        rw [hy] at gB
        have hval : t.val z w (Gz F w π (aA s.ob)) (a.eval y) := gB
        obtain ⟨v1, v2⟩ := DT.sK k3 hval
        have hpos : 0 < t.size := by rw [<- k4]; exact ((hT T).zc k2).2.2.2
        obtain ⟨cur, e0, c1, c2, c3⟩ := hm.writeAll (fs' := xA t z) (vs := (a.eval y).cells.toList) ho k6 (fun u hu => flat k3 hval u (by simpa using hu)) (by rw [k5]; simp [v1]) (fun j x hx cc hcc => by
         obtain ⟨u, a1, _, a3⟩ := split_ok (l := (a.eval y).cells.toList) (O := aA s.ob) (π := π) (fun cc hcc => by obtain ⟨u, a1, a2, a3⟩ := v2 cc hcc; exact ⟨u, by simpa using a1, a2, a3⟩) j x hx cc hcc
         exact ⟨u, a1, a3⟩) h3 (by simp [v1, hpos])
        exact fin k2 h4 (by rw [v1, k4]) (flat k3 hval) c1 c2 c3
       ·cases hp
      ·cases hp
     | cons j p =>
      simp only [TO.EO] at hp
      cases hj : fs[j]? with
      | none => rw [hj] at hp; cases hp
      | some x0 =>
       rw [hj] at hp
       simp only at hp
       obtain ⟨k, g0, h1, h2, h3, h4⟩ := hvp rfl
       simp only [TO.loc, hj] at h1
       simp only [TO.oO, hj] at h2
       cases p with
       | nil =>
        have hk0 : k = aP fs j := by
         cases x0 with
         | dv t z => simp only [TV.iF, DT.at_nil, Option.map_some, aS] at h1; exact h1.symm
         | _ => simpa [TV.iF] using h1.symm
        subst hk0
        simp only at hp
        split at hp
        ·rename_i hk
         simp only [bC, Bool.or_eq_true, beq_iff_eq] at hk
         simp only [aS, bJ] at hp
         obtain ⟨rfl, rfl⟩ := hp
         obtain ⟨⟨⟨_, k1⟩, k2⟩, k3⟩ := hk
         obtain ⟨e1, e2⟩ := UG k1
         have hone := TV.Yi k2 gB
         obtain ⟨f1, f2⟩ := TV.Rf k2 gB
         have hcells := cells_one hone
         obtain ⟨cur, e0, c1, c2, c3⟩ := hm.Zt (off := 0) (vs := (a.eval y).cells.toList) ho hj e1 e2 (by rw [hcells]; simp; omega) (by rw [hcells]; simpa using hone) (fun cc hcc => ⟨fun _ => by
          obtain rfl : cc = 0 := by omega
          exact ⟨a.eval y, by rw [hcells]; rfl, f2⟩, fun hn => by rw [hcells] at hn; simp at hn; omega⟩) h3 (by rw [hcells]; simp)
         simp only [Nat.add_zero] at c2 c3
         refine fin (by omega) h4 (by rw [hcells, ((hT T).one k3).1]; rfl) (by rw [hcells]; simpa using hone) c1 c2 c3
        ·split at hp
         ·rename_i t z _
          split at hp
          ·rename_i z' b1 hz
           split at hp
           ·rename_i hk
            simp only [bC, bne_iff_ne, ne_eq, beq_iff_eq] at hk
            simp only [aS, bJ] at hp
            obtain ⟨rfl, rfl⟩ := hp
            have hval := TV.qL hz hb hk.1.2 gB
            obtain ⟨v1, v2⟩ := DT.sK hk.1.2 hval
            have hpos : 0 < t.size := by rw [<- hk.2]; exact ((hT T).zc hk.1.1).2.2.2
            obtain ⟨cur, e0, c1, c2, c3⟩ := hm.Zt (y := .dv t z') (off := 0) (vs := (a.eval y).cells.toList) ho hj rfl (fun _ _ _ a b => ⟨a, b⟩) (by simp [v1, TV.size]) (fun u hu => flat hk.1.2 hval u (by simpa using hu)) (fun cc hcc => ⟨fun _ => by
             obtain ⟨u, a1, a2, a3⟩ := v2 cc hcc
             exact ⟨u, by rw [Nat.sub_zero, Array.getElem?_toList]; exact a1, a3⟩, fun hn => by simp [v1] at hn; simp only [TV.size] at hcc; omega⟩) h3 (by simp [v1, hpos])
            simp only [Nat.add_zero] at c2 c3
            exact fin hk.1.1 h4 (by rw [v1, hk.2]) (flat hk.1.2 hval) c1 c2 c3
           ·cases hp
          ·cases hp
         ·cases hp
       | cons q0 p =>
        simp only at hp
        split at hp
        ·rename_i t z
         split at hp
         ·rename_i N hN
          split at hp
          ·rename_i z' b1 hz
           split at hp
           ·rename_i hk
            simp only [bC, bne_iff_ne, ne_eq, beq_iff_eq] at hk
            simp only [aS, bJ] at hp
            obtain ⟨rfl, rfl⟩ := hp
            simp only [bC] at hb
            simp only [TV.iF, hN, Option.map_some, aS] at h1
            subst h1
            have hval := TV.qL hz hb.1 hk.1.2 gB
            obtain ⟨v1, v2⟩ := DT.sK hk.1.2 hval
            obtain ⟨n1, n2⟩ := DT.DW hN h2
            have hput := DT.Oi hN h2 z z' hb.2
            have hpos : 0 < N.u.size := by rw [<- hk.2]; exact ((hT T).zc hk.1.1).2.2.2
            obtain ⟨cur, e0, c1, c2, c3⟩ := hm.Zt (y := .dv t (N.put z z')) (off := N.off) (vs := (a.eval y).cells.toList) ho hj rfl (fun _ _ _ a b => ⟨a, b⟩) (by simp [v1, TV.size]; omega) (fun u hu => flat hk.1.2 hval u (by simpa using hu)) (fun cc hcc => by
             have BO : cc < t.size := hcc
             simp only [TV.mG, hput cc BO, Array.length_toList, v1]
             refine ⟨fun hq => ?_, fun hq u hu => ?_⟩
             ·rw [if_pos hq]
              obtain ⟨u, a1, a2, a3⟩ := v2 (cc - N.off) (by omega)
              exact ⟨u, by rw [Array.getElem?_toList]; exact a1, a3⟩
             ·rw [if_neg hq]; exact hu) h3 (by simp [v1, hpos])
            exact fin hk.1.1 h4 (by rw [v1, hk.2]) (flat hk.1.2 hval) c1 c2 c3
           ·cases hp
          ·cases hp
         ·cases hp
        ·cases hp
    | _ => simp [TO.EO] at hp
   ·cases h
  ·cases h
 ·cases h
end
end
section
section
variable {P : Program} {TI : Nat -> TD} {TY : Nat -> DT} {c : Cx} {F : Nat -> Prop} {s : TS} {π : Nat -> Pl} {a : Act} {w : World}
theorem akT {t ty e : TypeId} {i : TypeInfo} (ht : P.underlying t = some (.slice e)) (hi : P.info? e = some i) {g o n cap m c : Nat} {p : Option Addr} {cur : Array Value} {e' : TypeId} (hg : kQ w g cur e')
  {l : List Value} (hl : l.length = m * i.size) (h1 : ∀ u ∈ l, u.oneCell' = true) (hf : (Builtin.firstCells i.size m (.slice p m c)).run P w = .ok l.toArray w) (hroom : n + m <= cap) (hfit : o + n * i.size + l.length <= cur.size) :
  (Builtin.append_ #[t, t] ty #[.slice (some ⟨g, o, none⟩) n cap, .slice p m c]).run P w =
   .ok (.slice (some ⟨g, o, none⟩) (n + m) cap) (w.setRow g (jB cur (o + n * i.size) l)) := by
 have hst := Jv P g (o + n * i.size) e' l 0 cur w hg (by simpa using hfit) h1
 simp only [Nat.add_zero] at hst
 unfold jB
 simp [Builtin.append_, run_underlying ht, sizeOf, typeInfo, hi, Builtin.lenOf, hroom, hf, Addr.add_lit, hst]
theorem Jt {t ty e : TypeId} {i : TypeInfo} {z : Value} (ht : P.underlying t = some (.slice e)) (hi : P.info? e = some i) (hz : i.zero = some z) {w : World} {n cap m c : Nat} {q p : Option Addr}
  {k l : List Value} (hf0 : (Builtin.firstCells i.size n (.slice q n cap)).run P w.drew = .ok k.toArray w.drew) (hf : (Builtin.firstCells i.size m (.slice p m c)).run P w.drew = .ok l.toArray w.drew) (hg : cap < n + m)
  (h63 : ((n + m : Nat) : Int) <= 9223372036854775807) (hfit : Builtin.nextslicecap (n + m) cap * i.bytes <= 281474976710656) :
  (Builtin.append_ #[t, t] ty #[.slice q n cap, .slice p m c]).run P w =
   .ok (.slice (some ⟨w.heap.size, 0, none⟩) (n + m) (grownCap w (n + m) cap e)) (w.drew.alloc (.cells (k.toArray ++ l.toArray ++ Builtin.zeroCells z.cells (grownCap w (n + m) cap e - (n + m))) e)) := by
 have hn : ¬ (n + m <= cap) := by omega
 have h63' : ¬ (9223372036854775807 < ((n : Int) + (m : Int))) := by omega
 have h48' : ¬ (281474976710656 < Builtin.nextslicecap (n + m) cap * i.bytes) := by omega
 simp [Builtin.append_, run_underlying ht, sizeOf, typeInfo, zeroValue, hi, hz, Builtin.lenOf, hn, h63', h48', Question.forced, hf, hf0, newRow, grownCap]
 congr 2
 apply Array.ext'
 simp [List.append_assoc]
theorem ae7 (hm : aI c F π s a w) {d : Nat} {o : TO} (hd : aA s.ob d = some o) : fG w (Gz F w π (aA s.ob)) w (Gz F w π (aA ((d, .dead) :: s.ob))) := fun b ⟨h0, h1, h2⟩ => ⟨⟨h0, h1, fun id ⟨o1, h4, h3⟩ => by
 rw [dQ] at h4
 by_cases e : id = d
 ·rw [if_pos e] at h4; obtain rfl := aC h4; exact (h3.not rfl).elim
 ·rw [if_neg e] at h4; exact h2 id ⟨o1, h4, h3⟩⟩, rfl⟩
structure WA (P : Program) (c : Cx) (F : Nat -> Prop) (s : TS) (a : Act) (w : World) (T ty : TypeId) (v vy : Value) (d : Nat) (t : DT) (l : List t.den) (O : List (Nat × TO)) : Prop where
 ok : ∃ v' w' aJ, (Builtin.append_ #[T, T] ty #[v, vy]).run P w = .ok v' w' /\ aI c F aJ ⟨s.sl, (d, .row t l) :: O⟩ a w' /\ v' = (aJ d).hdr l.length
theorem Kq {n eb : Nat} (h : small n eb = true) : n * eb <= 140737488355328 /\ n <= 140737488355328 := by
 unfold small at h
 simpa using h
theorem ZT (hT : dI P TI) {T ty : TypeId} (hk : (TI T).kd = 2) {t : DT} (he : (TI T).elem = t.size) {l m : List t.den} (hs : small (l.length + m.length) (TI T).eb = true) (hm : aI c F π s a w) {d : Nat} (hd : aA s.ob d = none) {q p : Option Addr} {cap c0 : Nat}
  {cs ds : List Value} (h1 : CL w (Gz F w π (aA s.ob)) t l cs) (h2 : CL w (Gz F w π (aA s.ob)) t m ds) (f1 : (Builtin.firstCells t.size l.length (.slice q l.length cap)).run P w.drew = .ok cs.toArray w.drew) (f2 : (Builtin.firstCells t.size m.length (.slice p m.length c0)).run P w.drew = .ok ds.toArray w.drew) (hcap : cap < l.length + m.length) :
  WA P c F s a w T ty (.slice q l.length cap) (.slice p m.length c0) d t (l ++ m) s.ob := by
 obtain ⟨e, ie, b1, b2, b3, b4, b5, b6, b7, b8⟩ := (hT T).sl hk
 obtain ⟨s1, s2⟩ := Kq hs
 have hsz : ie.size = t.size := b3.trans he
 rw [<- hsz] at f1 f2
 have hrun := Jt (P := P) (ty := ty) b1 b2 b5 f1 f2 hcap (by omega) (growslice_fits hcap (by rw [b4]; exact s1))
 have hge := grownCap_ge w (l.length + m.length) cap e
 have hcm : grownCap w (l.length + m.length) cap e <= maxLen := grownCap_le_maxLen w (l.length + m.length) cap e (by simp [maxLen]; omega)
 have hcl := h1.append h2
 have TR : (cs.toArray ++ ds.toArray ++ Builtin.zeroCells (TI T).ez.cells (grownCap w (l.length + m.length) cap e - (l.length + m.length))).size = grownCap w (l.length + m.length) cap e * t.size := by
  simp only [Array.size_append, List.size_toArray, size_zeroCells, b6, h1.len, h2.len, he, <- Nat.add_mul]
  congr 1
  omega
 refine ⟨_, _, _, hrun, hm.newRow (cap := grownCap w (l.length + m.length) cap e) hd hcl (w' := w.drew.alloc _) ((Below.refl _ _).drew.alloc (by simp) _) (.of (heap_alloc_new w.drew _)) (fun q hq => ?_) (by rw [TR]; exact Nat.le_refl _) (by simpa using hge) hcm, by simp [aW, Pl.hdr]⟩
 rw [Array.getElem?_append_left (by simpa using hq)]
 simp
theorem aqV (hT : dI P TI) {T ty : TypeId} (hk : (TI T).kd = 2) {t : DT} (he : (TI T).elem = t.size) {l m : List t.den} (hs : small (l.length + m.length) (TI T).eb = true) (hm : aI c F π s a w) {d id : Nat} (hd : aA s.ob d = none) (hid : aA s.ob id = some (.row t l)) {y : TV} {v vy : Value}
  (hv : VR w (Gz F w π (aA s.ob)) π (aA s.ob) (.row id) v) (hy : y.data (aA s.ob) = some ⟨t, m⟩) (gB : VR w (Gz F w π (aA s.ob)) π (aA s.ob) y vy) :
  WA P c F s a w T ty v vy d t (l ++ m) ((id, .dead) :: s.ob) := by
 obtain ⟨e, ie, b1, b2, b3, b4, b5, b6, b7, b8⟩ := (hT T).sl hk
 have hsz : ie.size = t.size := b3.trans he
 have hne : d ≠ id := fun e => by subst e; rw [hd] at hid; cases hid
 have hlive : (TO.row t l).live = true := rfl
 obtain ⟨cs, q, cap, h1, e1, f1⟩ := src_ok (P := P) (t := t) (l := l) hm (x := .row id) (by simp only [TV.data, hid]) hv
 obtain ⟨ds, p, c0, h2, e2, f2⟩ := src_ok (P := P) hm hy gB
 have afA := hm.dead hid
 have hz := ae7 hm hid
 have hd' : aA ((id, .dead) :: s.ob) d = none := by rw [dQ, if_neg hne]; exact hd
 have grow : cap < l.length + m.length -> WA P c F s a w T ty v vy d t (l ++ m) ((id, .dead) :: s.ob) := fun hcap => by
  subst e1; subst e2
  obtain ⟨⟨v', w', aJ, g1, g2, g3⟩⟩ := ZT (ty := ty) hT hk he hs afA hd' (h1.mono hz) (h2.mono hz) (f1 w.drew fun _ _ _ => rfl) (f2 w.drew fun _ _ _ => rfl) hcap
  exact ⟨v', w', aJ, g1, g2, g3⟩
 simp only [VR, hid] at hv
 rcases hm.obj id _ hid with ⟨o1, o2⟩ | ⟨g, cur, e', o1, o2, o3, o4, o5, o6⟩
 ·subst o2
  by_cases hn : m.length = 0
  ·have hm0 : m = [] := List.eq_nil_of_length_eq_zero hn
   subst hm0
   have hv' : v = .slice none 0 0 := by rw [hv, Pl.hdr, o1]
   have f2' := f2 w fun _ _ _ => rfl
   rw [<- hsz] at f2'
   refine ⟨.slice none 0 0, w, _, ?_, afA.Xj t hd', by simp [aW, Pl.hdr]⟩
   subst hv'; subst e2
   simp only [List.length_nil] at f2'
   have hds : ds = [] := List.eq_nil_of_length_eq_zero (by rw [h2.len]; simp)
   subst hds
   simp [Builtin.append_, run_underlying b1, sizeOf, typeInfo, b2, Builtin.lenOf, f2']
  ·refine grow ?_
   have hv' : v = .slice none 0 0 := by rw [hv, Pl.hdr, o1]
   rw [hv'] at e1
   simp only [Value.slice.injEq] at e1
   obtain ⟨_, _, rfl⟩ := e1
   omega
 ·have hv' : v = .slice (some ⟨g, (π id).q, none⟩) l.length (π id).cap := by rw [hv, Pl.hdr, o1]
  have awJ : cap = (π id).cap := by rw [hv'] at e1; simp only [Value.slice.injEq] at e1; exact e1.2.2.symm
  by_cases hroom : l.length + m.length <= (π id).cap
  ·subst e2
   have f2' := f2 w fun _ _ _ => rfl
   rw [<- hsz] at f2'
   have hcap2 : (l.length + m.length) * t.size <= (π id).cap * t.size := Nat.mul_le_mul_right _ hroom
   rw [Nat.add_mul] at hcap2
   have hfit : (π id).q + l.length * ie.size + ds.length <= cur.size := by rw [hsz, h2.len]; omega
   have hrun := akT (P := P) (ty := ty) b1 b2 (o := (π id).q) o2 (by rw [h2.len, hsz]) h2.flat f2' hroom hfit
   have hheap := GZ o2 (vX cur ((π id).q + l.length * ie.size) ds hfit)
   have hoth : ∀ b, b ≠ g -> (w.setRow g (jB cur ((π id).q + l.length * ie.size) ds)).heap[b]? = w.heap[b]? := fun b hb => setRow_other w g b _ hb
   have hsize : (w.setRow g (jB cur ((π id).q + l.length * ie.size) ds)).heap.size = w.heap.size := by simp
   have hown : Own π (aA s.ob) id g := .of o1 hid rfl
   have own : ∀ i b, Own (aW π d (π id)) (aA ((d, .row t (l ++ m)) :: (id, .dead) :: s.ob)) i b -> (i = d /\ b = g) \/ (i ≠ d /\ i ≠ id /\ Own π (aA s.ob) i b) := fun i b ⟨o', r2, r3⟩ => by
    rw [dQ, dQ] at r2
    by_cases e1 : i = d
    ·subst e1
     rw [if_pos rfl] at r2; obtain rfl := aC r2
     have r1 := r3.g rfl
     simp only [aW, if_true, o1, aS] at r1
     exact .inl ⟨rfl, r1.symm⟩
    ·rw [if_neg e1] at r2
     simp only [aW, if_neg e1] at r3
     by_cases e2 : i = id
     ·rw [if_pos e2] at r2; obtain rfl := aC r2; exact (r3.not rfl).elim
     ·rw [if_neg e2] at r2; exact .inr ⟨e1, e2, o', r2, r3⟩
   have E : gK w (Gz F w π (aA s.ob)) π (aA s.ob) (w.setRow g (jB cur ((π id).q + l.length * ie.size) ds)) (Gz F (w.setRow g (jB cur ((π id).q + l.length * ie.size) ds)) (aW π d (π id)) (aA ((d, .row t (l ++ m)) :: (id, .dead) :: s.ob))) (aW π d (π id)) (aA ((d, .row t (l ++ m)) :: (id, .dead) :: s.ob)) := by
    refine ⟨fun b ⟨r0, r1, r2⟩ => ⟨⟨r0, by rw [hsize]; exact r1, fun i hi => ?_⟩, hoth b fun e => r2 id (e ▸ hown)⟩, fun i o ho => ?_⟩
    ·rcases own i b hi with ⟨_, rfl⟩ | ⟨_, _, h⟩
     ·exact r2 id hown
     ·exact r2 i h
    ·have e1 : i ≠ d := fun e => by subst e; rw [hd] at ho; cases ho
     by_cases e2 : i = id
     ·exact ⟨.dead, by rw [dQ, if_neg e1, dQ, if_pos e2], by simp [Step]⟩
     ·exact ⟨o, by rw [dQ, if_neg e1, dQ, if_neg e2]; exact ho, by simp only [aW, if_neg e1]; exact Step.refl o⟩
   have hbar := hm.new id g hown
   refine ⟨_, _, aW π d (π id), by rw [hv']; exact hrun, ?_, by simp [aW, Pl.hdr, o1]⟩
   refine hm.go (hm.kept.on ⟨rfl, rfl, rfl⟩ (by rw [hsize]; exact Nat.le_refl _) fun b hb => hoth b fun e => hbar.1 (e ▸ hb)) E (fun i o ho => ?_) (fun i j b hi hj => ?_) (fun i b hi => ?_)
   ·by_cases e1 : i = d
    ·rw [dQ, if_pos e1] at ho
     obtain rfl := aC ho
     subst e1
     refine .inr ⟨g, _, e', by simp [aW, o1], hheap, by simpa [aW] using hroom, by simpa [aW] using o4, by simp only [aW, if_true]; rw [vX _ _ _ hfit]; exact o5, fun j hj cc hcc => ?_⟩
     simp only [aW, if_true]
     rw [KD _ _ _ _ hfit, FU]
     by_cases hjl : j < l.length
     ·have : j * t.size + t.size <= l.length * t.size := by have := Nat.mul_le_mul_right t.size (show j + 1 <= l.length by omega); rw [Nat.add_mul] at this; omega
      rw [if_pos hjl, if_neg (by rw [hsz]; omega)]
      obtain ⟨u, r1, r2, r3⟩ := o6 j hjl cc hcc
      exact ⟨u, r1, r2, DT.iE E.fz r3⟩
     ·rw [List.length_append] at hj
      have hle : l.length * t.size <= j * t.size := Nat.mul_le_mul_right _ (by omega)
      have hlt : (j - l.length) * t.size + cc < m.length * t.size := ED (by omega) hcc
      have hsub : (j - l.length) * t.size = j * t.size - l.length * t.size := Nat.sub_mul _ _ _
      rw [if_neg hjl, if_pos (by rw [hsz, h2.len]; omega)]
      obtain ⟨u, r1, r2, r3⟩ := h2.el (j - l.length) (by omega) cc hcc
      exact ⟨u, by rw [<- r1, hsz]; congr 1; omega, r2, DT.iE E.fz r3⟩
    ·rw [dQ, if_neg e1, dQ] at ho
     by_cases e2 : i = id
     ·rw [if_pos e2] at ho; obtain rfl := aC ho; trivial
     ·rw [if_neg e2] at ho
      exact (hm.obj i o ho).lY E (by simp only [aW, if_neg e1]) fun b hb => hoth b fun e => e2 (hm.inj i id g ⟨o, ho, e ▸ hb⟩ hown)
   ·rcases own i b hi with ⟨r1, r2⟩ | ⟨r1, r2, r3⟩ <;> rcases own j b hj with ⟨r4, r5⟩ | ⟨r4, r5, r6⟩
    ·exact r1.trans r4.symm
    ·exact absurd (hm.inj j id g (r2 ▸ r6) hown) r5
    ·exact absurd (hm.inj i id g (r5 ▸ r3) hown) r2
    ·exact hm.inj i j b r3 r6
   ·rw [hsize]
    rcases own i b hi with ⟨_, rfl⟩ | ⟨_, _, r3⟩
    ·exact hbar
    ·exact hm.new i b r3
  ·exact grow (by omega)
theorem aqW (hT : dI P TI) {rc : Nat -> Option (List (Option DT))} {cl : Call} {dst : Option Nat} {ty : TypeId} {pos : String} {after : Array Edge} {g : Option (Nat × Bool)} {e : Eff} (h : jX TI TY rc s.ev (aA s.ob) dst (.call cl) = some e) (hb : e.b = true) (hm : aI c F π s a w) : jR P c F s π a w ⟨dst, .call cl, ty, pos, after, g⟩ e := by
 simp only [jX] at h
 obtain ⟨callee, args, ats⟩ := cl
 simp only at h
 split at h
 ·rename_i d x y T T' hxs hts
  split at h
  ·rename_i heq
   subst heq
   have ha : args = #[x, y] := by apply Array.ext'; simpa using hxs
   have ht : ats = #[T, T] := by apply Array.ext'; simpa using hts
   subst ha; subst ht
   have oL : ∀ {v : Value} {w' : World}, (Builtin.append_ #[T, T] ty #[a.eval x, a.eval y]).run P w = .ok v w' -> (execOp a.eval ⟨some d, .call { callee := .builtin .append, args := #[x, y], argTypes := #[T, T] }, ty, pos, after, g⟩).run P w = .ok (.value v) w' := fun h =>
    eP (e := Builtin.append_ #[T, T] ty #[a.eval x, a.eval y]) (by rw [BigFrame.execOp_builtin, BigFrame.builtin_append]; simp) h
   have fin : ∀ {t : DT} {l : List t.den} {O : List (Nat × TO)} {b : Bool}, WA P c F s a w T ty (a.eval x) (a.eval y) d t l (O ++ s.ob) -> jR P c F s π a w ⟨some d, .call { callee := .builtin .append, args := #[x, y], argTypes := #[T, T] }, ty, pos, after, g⟩ ⟨.row d, (d, .row t l) :: O, b⟩ := fun ⟨v', w', aJ, h1, h2, h3⟩ =>
    ⟨v', w', aJ, .inl (oL h1), h2, by simp only [VR, List.cons_append, aA, if_true]; exact h3⟩
   have gQ := hm.ev x
   have gB := hm.ev y
   unfold KI at h
   split at h
   ·cases h
   ·rename_i hd
    split at h
    ·rename_i id hx
     rw [hx] at gQ
     split at h
     ·rename_i t l hid
      split at h
      ·rename_i t' m hy
       split at h
       ·rename_i e2
        subst e2
        split at h
        ·rename_i hk
         simp only [bC, beq_iff_eq] at hk
         obtain rfl := aC h
         exact fin (O := [(id, .dead)]) (aqV hT hk.1 hk.2 hb hm hd hid gQ hy gB)
        ·cases h
       ·cases h
      ·cases h
     ·cases h
    ·rename_i hx
     rw [hx] at gQ
     split at h
     ·rename_i t t' m TM hy
      split at h
      ·rename_i e2
       subst e2
       split at h
       ·rename_i hk
        simp only [bC, beq_iff_eq] at hk
        obtain rfl := aC h
        have hv' : a.eval x = .slice none 0 0 := gQ
        obtain ⟨ds, p, c0, h2, e2, f2⟩ := src_ok (P := P) hm hy gB
        obtain ⟨e, ie, b1, b2, b3, b4, b5, b6, b7, b8⟩ := (hT T).sl hk.1
        have hsz := b3.trans hk.2
        refine fin (O := []) ?_
        by_cases hn : m.length = 0
        ·have hm0 : m = [] := List.eq_nil_of_length_eq_zero hn
         subst hm0
         have f2' := f2 w fun _ _ _ => rfl
         rw [<- hsz] at f2'
         refine ⟨.slice none 0 0, w, _, ?_, hm.Xj _ hd, by simp [aW, Pl.hdr]⟩
         have hds : ds = [] := List.eq_nil_of_length_eq_zero (by rw [h2.len]; simp)
         subst hds
         rw [hv', e2]
         rw [e2] at f2'
         simp only [List.length_nil] at f2' ⊢
         simp [Builtin.append_, run_underlying b1, sizeOf, typeInfo, b2, Builtin.lenOf, f2']
        ·have hcl0 : CL w (Gz F w π (aA s.ob)) t' [] [] := ⟨by simp, fun i hi => by simp at hi⟩
         have f2' := f2 w.drew fun _ _ _ => rfl
         rw [e2] at f2'
         obtain ⟨⟨v', w', aJ, g1, g2, g3⟩⟩ := ZT (P := P) (ty := ty) (l := []) hT hk.1 hk.2 (by simpa using hb) hm hd (q := none) (cap := 0) hcl0 h2 (by simp [Builtin.firstCells]) f2' (by simp; omega)
         exact ⟨v', w', aJ, by rw [hv', e2]; exact g1, g2, g3⟩
       ·cases h
      ·cases h
     ·cases h
    ·rename_i t l hx
     rw [hx] at gQ
     split at h
     ·rename_i t' m hy
      split at h
      ·rename_i e2
       subst e2
       split at h
       ·rename_i hk
        simp only [bC, beq_iff_eq] at hk
        obtain rfl := aC h
        have hb' : (decide (0 < m.length) && small (l.length + m.length) (TI T).eb) = true := hb
        simp only [bC, fH] at hb'
        obtain ⟨ds, p, c0, h2, e2, f2⟩ := src_ok (P := P) hm hy gB
        obtain ⟨cs, q, cap, h1, e1, f1⟩ := src_ok (P := P) (t := t') (l := l) hm (x := .dv (.jT t') l) rfl gQ
        have hcap : cap = l.length := by
         obtain ⟨p', cap', e3, _, _, _, e4, _⟩ := (DT.val_one (t := .jT t') rfl).1 gQ
         rw [e1] at e3
         simp only [Value.slice.injEq] at e3
         rw [e3.2.2]; exact e4
        have f1' := f1 w.drew fun _ _ _ => rfl
        have f2' := f2 w.drew fun _ _ _ => rfl
        rw [e2] at f2'
        rw [e1] at f1'
        refine fin (O := []) ?_
        obtain ⟨⟨v', w', aJ, g1, g2, g3⟩⟩ := ZT (P := P) (ty := ty) hT hk.1 hk.2 hb'.2 hm hd h1 h2 f1' f2' (by omega)
        exact ⟨v', w', aJ, by rw [e1, e2]; exact g1, g2, g3⟩
       ·cases h
      ·cases h
     ·cases h
    ·cases h
  ·cases h
 ·cases h
end
end
section
def kG (ev : Operand -> TV) : Option Operand -> Option (Option Int)
 | none => some none
 | some o => match ev o with
  | .dv (.int _) z => some (some z)
  | _ => none
def BL {α : Type} (l : List α) : Option Int -> Option Int -> List α
 | none, none => l
 | some a, none => l.drop a.toNat
 | none, some b => l.take b.toNat
 | some a, some b => (l.take b.toNat).drop a.toNat
def rU (n : Nat) : Option Int -> Option Int -> Bool
 | none, none => true
 | some a, none => decide (0 <= a /\ a <= (n : Int))
 | none, some b => decide (0 <= b /\ b <= (n : Int))
 | some a, some b => decide (0 <= a /\ a <= b /\ b <= (n : Int))
def jA : Option Int -> Nat
 | none => 0
 | some a => a.toNat
def hiN (n : Nat) : Option Int -> Nat
 | none => n
 | some b => b.toNat
theorem BK {n : Nat} {a b : Option Int} (h : rU n a b = true) : jA a <= hiN n b /\ hiN n b <= n /\ (∀ z, a = some z -> 0 <= z) /\ (∀ z, b = some z -> 0 <= z) := by
 cases a <;> cases b <;> simp only [rU, fH] at h <;> simp only [jA, hiN] <;> refine ⟨by omega, by omega, fun z hz => ?_, fun z hz => ?_⟩ <;> first | (cases hz; done) | (obtain rfl := aC hz; omega)
theorem Ap {α : Type} (l : List α) (a b : Option Int) : BL l a b = (l.take (hiN l.length b)).drop (jA a) := by
 cases a <;> cases b <;> simp [BL, jA, hiN]
def uN (L : bF) : (t : DT) -> List TV -> Option (t.den × Bool)
 | .unit, [] => some ((), true)
 | .pair a b, x :: r => match x.as L a with
  | some (y, b1) => match uN L b r with
   | some (z, b2) => if x.size == a.size && a.plain then some ((y, z), b1 && b2) else none
   | none => none
  | none => none
 | _, _ => none
def DT.chain : DT -> Bool
 | .rY => true
 | .iT _ t r => !t.agg && t.plain && r.chain
 | _ => false
def DT.tagged : DT -> Nat -> Bool
 | .iT T _ r, T' => decide (T = T') || r.tagged T'
 | _, _ => false
def DT.held : (s : DT) -> Nat -> Option (Σ t : DT, s.den -> Option t.den)
 | .iT T t r, T' => if T = T' then (if r.tagged T' then none else some ⟨t, fun y => match y with | .inl a => some a | .inr _ => none⟩)
   else match r.held T' with
    | some ⟨u, f⟩ => some ⟨u, fun y => match y with | .inl _ => none | .inr b => f b⟩
    | none => none
 | _, _ => none
theorem DT.aEB {w : World} {G : Nat -> Prop} : ∀ {s : DT} {T : Nat} {y : s.den} {v : Value}, s.chain = true -> s.tagged T = false -> s.cell y 0 w G v -> v = .nilIface \/ ∃ T' u, v = .iface T' u /\ T' ≠ T := by
 intro s
 induction s with
 | rY => intro T y v _ _ h; exact .inl h
 | iT T0 t r _ ih =>
  intro T y v hc ht h
  simp only [DT.chain, bC] at hc
  simp only [DT.tagged, Bool.or_eq_false_iff, decide_eq_false_iff_not] at ht
  cases y with
  | inl a => obtain ⟨u, h1, _⟩ := h; exact .inr ⟨T0, u, h1, ht.1⟩
  | inr b => exact ih (y := b) hc.2 ht.2 h
 | _ => intro T y v hc; simp [DT.chain] at hc
theorem DT.awO : ∀ {s : DT} {T : Nat} {t : DT} {f : s.den -> Option t.den}, s.chain = true -> s.held T = some ⟨t, f⟩ -> t.agg = false /\ t.plain = true := by
 intro s
 induction s with
 | iT T0 t0 r _ ih =>
  intro T t f hc hh
  simp only [DT.chain, bC, Bool.not_eq_true'] at hc
  simp only [DT.held] at hh
  split at hh
  ·split at hh
   ·cases hh
   ·obtain ⟨rfl, _⟩ := Sigma.mk.inj (aC hh)
    exact hc.1
  ·split at hh
   ·rename_i u g hg
    obtain ⟨rfl, _⟩ := Sigma.mk.inj (aC hh)
    exact ih hc.2 hg
   ·cases hh
 | _ => intro T t f hc hh; simp [DT.held] at hh
theorem DT.awN {w : World} {G : Nat -> Prop} : ∀ {s : DT} {T : Nat} {t : DT} {f : s.den -> Option t.den} {y : s.den} {v : Value}, s.chain = true -> s.held T = some ⟨t, f⟩ -> s.cell y 0 w G v ->
  (∃ a u, f y = some a /\ v = .iface T u /\ t.cell a 0 w G u) \/ (f y = none /\ (v = .nilIface \/ ∃ T' u, v = .iface T' u /\ T' ≠ T)) := by
 intro s
 induction s with
 | iT T0 t0 r _ ih =>
  intro T t f y v hc hh h
  simp only [DT.chain, bC, Bool.not_eq_true'] at hc
  simp only [DT.held] at hh
  split at hh
  ·rename_i e
   subst e
   split at hh
   ·cases hh
   ·rename_i ht
    obtain ⟨rfl, hf⟩ := Sigma.mk.inj (aC hh)
    obtain rfl := eq_of_heq hf
    cases y with
    | inl a => obtain ⟨u, h1, _, h3⟩ := h; exact .inl ⟨a, u, rfl, h1, h3⟩
    | inr b => exact .inr ⟨rfl, DT.aEB (y := b) hc.2 (by simpa using ht) h⟩
  ·rename_i hne
   split at hh
   ·rename_i u g hg
    obtain ⟨rfl, hf⟩ := Sigma.mk.inj (aC hh)
    obtain rfl := eq_of_heq hf
    cases y with
    | inl a => obtain ⟨z, h1, _⟩ := h; exact .inr ⟨rfl, .inr ⟨T0, z, h1, hne⟩⟩
    | inr b => exact ih (y := b) hc.2 hg h
   ·cases hh
 | _ => intro T t f y v hc hh; simp [DT.held] at hh
def noIface (d : TD) : Bool := d.ik.isSome || d.bl || d.st || d.kd == 2
def oD (TI : Nat -> TD) (TY : Nat -> DT) (ev : Operand -> TV) (L : bF) : Op -> Option (TV × Bool)
 | .slice T x lo hi mx => match kG ev lo, kG ev hi, kG ev mx with
  | some a, some b, some none => match ev x with
   | .row id => match L id with
    | some (.row t l) => if (TI T).kd == 2 && (TI T).elem == t.size then some (.iP id (jA a) (hiN l.length b), rU l.length a b) else none
    | some (.dG t l) => if (TI T).kd == 2 && (TI T).elem == t.size then some (.dv (.sl t) (BL l a b), rU l.length a b) else none
    | _ => none
   | .iP id i j => match L id with
    | some (.row t l) => if (TI T).kd == 2 && (TI T).elem == t.size then some (.iP id (i + jA a) (i + hiN (j - i) b), rU (j - i) a b) else none
    | some (.dG t l) => if (TI T).kd == 2 && (TI T).elem == t.size then some (.dv (.sl t) (BL ((l.take j).drop i) a b), rU ((l.take j).drop i).length a b) else none
    | _ => none
   | .ptr id i p => match L id with
    | some o => match o.part i p with
     | some ⟨.arr n u, _⟩ => if (TI T).kd == 3 && (TI T).elem == u.size && (TI T).len == n then some (.view id i p u.size n (jA a) (hiN n b), rU n a b && decide (n <= 1000000)) else none
     | _ => none
    | none => none
   | .el t x p => match (t.at p).map fun L' => (⟨L'.u, L'.get x⟩ : (u : DT) × u.den) with
    | some ⟨.arr n u, l⟩ => if (TI T).kd == 3 && (TI T).elem == u.size && (TI T).len == n && a.isNone && b.isNone then some (.dv (.sl u) l, decide (List.length l = n) && decide (n <= 1000000) && decide (0 < n)) else none
    | _ => none
   | .dv .str l => if (TI T).st then some (.dv .str (BL l a b), rU l.length a b) else none
   | x => match x.lM L with
    | some ⟨t, l⟩ => if (TI T).kd == 2 && (TI T).elem == t.size then some (.dv (.sl t) (BL l a b), rU l.length a b) else none
    | none => none
  | some a, some (some b), some (some m) => match (ev x).lM L with
   | some ⟨t, l⟩ => if (TI T).kd == 2 && (TI T).elem == t.size then some (.dv (.jT t) (BL l a (some b)), rU l.length a (some b) && decide (m = b)) else none
   | none => none
  | _, _, _ => none
 | .load T p => match ev p with
  | .ptr id i [] => match L id with
   | some (.aV fs) => match uN L (TY T) fs with
    | some (y, b) => if ((TI T).kd == 3 || (TI T).kd == 4) && (TI T).size == (TY T).size && (TY T).agg && i == 0 then some (.dv (TY T) y, b) else none
    | none => none
   | _ => none
  | _ => none
 | .makeInterface T x => match ev x with
  | .dv t y => if !t.agg && t.plain && noIface (TI T) then some (.dv (.iT T t .rY) (.inl y), true) else none
  | _ => none
 | .typeAssert x _ T true => match ev x with
  | .dv u y => match u.held T with
   | some ⟨t, f⟩ => if u.chain && noIface (TI T) && (TI T).kd != 0 && isZero (TI T).zero t then
     some (.dM 2 fun j => if j = 0 then .dv t ((f y).getD t.dflt) else .dv .bool (f y).isSome, true) else none
   | none => none
  | _ => none
 | .nilCheck x => match ev x with
  | .dv (.fp t) y => some (.dv (.fp t) y, y.isSome)
  | _ => none
 | .fieldAddr T x k => match ev x with
  | .dv (.fp t) y => match t.at [k], (TI T).aP[k]? with
   | some r, some (off, _) => if (TI T).kd == 4 && r.off == off && t.pO k then some (.el t (y.getD t.dflt) [k], y.isSome) else none
   | _, _ => none
  | _ => none
 | .binOp op T x y _ => match ev x, ev y with
  | .dv (.fp _) a, .cst (.pointer none) => if (TI T).pt then (match op with
   | .eql => some (.dv .bool a.isNone, true)
   | .neq => some (.dv .bool (!a.isNone), true)
   | _ => none) else none
  | _, _ => none
 | _ => none
section
variable {P : Program} {TI : Nat -> TD} {TY : Nat -> DT} {c : Cx} {F : Nat -> Prop} {s : TS} {π : Nat -> Pl} {a : Act} {w : World}
theorem Uo (hm : aI c F π s a w) {o : Option Operand} {r : Option Int} (h : kG s.ev o = some r) : (o = none /\ r = none) \/ ∃ x k z, o = some x /\ r = some z /\ a.eval x = .int k z := by
 cases o with
 | none => simp only [kG, aS] at h; exact .inl ⟨rfl, h.symm⟩
 | some x =>
  simp only [kG] at h
  split at h
  ·rename_i k z he
   obtain rfl := aC h
   exact .inr ⟨x, k, z, rfl, rfl, hm.zC he⟩
  ·cases h
theorem sG (k : IntKind) {z : Int} {y : Nat} (code : BoundsCode) (h0 : 0 <= z) (h1 : z.toNat <= y) : (Instr.sliceBound (.int k z) y code).run P w = .ok z.toNat w :=
 run_sliceBound (w := w) k z y code h0 (by omega)
theorem J9 {T e : TypeId} {ie : TypeInfo} (b1 : P.underlying T = some (.slice e)) (b2 : P.info? e = some ie) {p : Option Addr} {n cap : Nat} (hnc : n <= cap) {lo hi : Option Value} {ra rb : Option Int}
  (hlo : (lo = none /\ ra = none) \/ ∃ k z, lo = some (.int k z) /\ ra = some z) (hhi : (hi = none /\ rb = none) \/ ∃ k z, hi = some (.int k z) /\ rb = some z) (hc : rU n ra rb = true) :
  (Instr.sliceAt T (.slice p n cap) lo hi none).run P w = .ok (.slice (if cap = jA ra then p else p.map (·.add (jA ra * ie.size))) (hiN n rb - jA ra) (cap - jA ra)) w := by
 obtain ⟨c1, c2, c3, c4⟩ := BK hc
 rcases hlo with ⟨rfl, rfl⟩ | ⟨kl, zl, rfl, rfl⟩ <;> rcases hhi with ⟨rfl, rfl⟩ | ⟨kh, zh, rfl, rfl⟩ <;> simp only [jA, hiN] at c1 c2 ⊢
 ·simp [Instr.sliceAt, Instr.slice, run_underlying b1, Instr.sliceBounds, sizeOf, typeInfo, b2]
 ·simp [Instr.sliceAt, Instr.slice, run_underlying b1, Instr.sliceBounds, sizeOf, typeInfo, b2, sG (P := P) (w := w) kh (y := cap) _ (c4 _ rfl) (by omega)]
 ·simp [Instr.sliceAt, Instr.slice, run_underlying b1, Instr.sliceBounds, sizeOf, typeInfo, b2, sG (P := P) (w := w) kl (y := n) _ (c3 _ rfl) c1]
  congr
 ·simp [Instr.sliceAt, Instr.slice, run_underlying b1, Instr.sliceBounds, sizeOf, typeInfo, b2, sG (P := P) (w := w) kh (y := cap) _ (c4 _ rfl) (by omega), sG (P := P) (w := w) kl (y := zh.toNat) _ (c3 _ rfl) c1]
  congr
theorem aDL {T e : TypeId} {ie : TypeInfo} (b1 : P.underlying T = some (.slice e)) (b2 : P.info? e = some ie) {p : Option Addr} {n cap : Nat} (hnc : n <= cap) {lo : Option Value} {ra : Option Int} {kh km : IntKind} {zh : Int}
  (hlo : (lo = none /\ ra = none) \/ ∃ k z, lo = some (.int k z) /\ ra = some z) (hc : rU n ra (some zh) = true) :
  (Instr.sliceAt T (.slice p n cap) lo (some (.int kh zh)) (some (.int km zh))).run P w = .ok (.slice (if zh.toNat = jA ra then p else p.map (·.add (jA ra * ie.size))) (zh.toNat - jA ra) (zh.toNat - jA ra)) w := by
 obtain ⟨c1, c2, c3, c4⟩ := BK hc
 simp only [hiN] at c1 c2
 rcases hlo with ⟨rfl, rfl⟩ | ⟨kl, zl, rfl, rfl⟩ <;> simp only [jA] at c1 ⊢
 ·simp [Instr.sliceAt, Instr.slice, run_underlying b1, Instr.sliceBounds, sizeOf, typeInfo, b2, sG (P := P) (w := w) km (y := cap) _ (c4 _ rfl) (by omega), sG (P := P) (w := w) kh (y := zh.toNat) _ (c4 _ rfl) (Nat.le_refl _)]
 ·simp [Instr.sliceAt, Instr.slice, run_underlying b1, Instr.sliceBounds, sizeOf, typeInfo, b2, sG (P := P) (w := w) km (y := cap) _ (c4 _ rfl) (by omega), sG (P := P) (w := w) kh (y := zh.toNat) _ (c4 _ rfl) (Nat.le_refl _), sG (P := P) (w := w) kl (y := zh.toNat) _ (c3 _ rfl) c1]
  congr
theorem alA {G : Nat -> Prop} {t : DT} {l : List t.den} {p : Option Addr} {n cap i j cap' : Nat} (hv : (DT.sl t).cell l 0 w G (.slice p n cap)) (h1 : i <= j) (h2 : j <= l.length) (h3 : j - i <= cap') (h4 : cap' <= cap - i) (fl : Option Addr -> Nat -> Nat -> Prop) (p' : Option Addr) (hp' : i < j -> p' = p.map (·.add (i * t.size))) (hpn : p = none -> p' = none) (hfl : fl p' (j - i) cap') (hpp : p' = none -> p = none) :
  lX fl t.size ((l.take j).drop i).length (fun k c => t.cell (((l.take j).drop i).getD k t.dflt) c) w G (.slice p' (j - i) cap') := by
 obtain ⟨q, cap0, e, a1, a2, a3, _, a5⟩ := hv
 simp only [Value.slice.injEq] at e
 obtain ⟨rfl, rfl, rfl⟩ := e
 have hl : ((l.take j).drop i).length = j - i := by simp; omega
 refine ⟨p', cap', by rw [hl], by rw [hl]; exact h3, by omega, fun h => by have := a3 (hpp h); omega, by rw [hl]; exact hfl, fun hn => ?_⟩
 rw [hl] at hn ⊢
 obtain ⟨b, o, rfl, b1, b2⟩ := a5 (by omega)
 refine ⟨b, o + i * t.size, by rw [hp' (by omega)]; simp [add_lit], b1, fun k hk cc hcc => ?_⟩
 obtain ⟨u, d1, d2, d3⟩ := b2 (i + k) (by omega) cc hcc
 refine ⟨u, by rw [<- d1, Nat.add_mul]; congr 2; omega, d2, ?_⟩
 show t.cell (((l.take j).drop i).getD k t.dflt) cc w G u
 rw [NK _ _ _ _ _ h2 hk]; exact d3
theorem acM {G : Nat -> Prop} {O : bF} : ∀ {t : DT} {fs : List TV} {y : t.den} {b : Bool} {cells : Nat -> Option Value}, uN O t fs = some (y, b) -> b = true -> (∀ (j : Nat) (x : TV), fs[j]? = some x -> ∀ cc, cc < x.size -> ∃ u, cells (aP fs j + cc) = some u /\ u.oneCell' = true /\ x.mG w G π O cc u) ->
    ∀ cc, cc < t.size -> ∃ u, cells cc = some u /\ u.oneCell' = true /\ t.cell y cc w G u := by
  intro t
  induction t with
  | unit => intro fs y b cells _ _ _ cc hcc; simp [DT.size] at hcc
  | pair a b iha ihb =>
    intro fs y bb cells h hb hc cc hcc
    cases fs with
    | nil => simp [uN] at h
    | cons x r =>
      simp only [uN] at h
      split at h
      · rename_i y1 b1 hy1
        split at h
        · rename_i z b2 hz
          split at h
          · rename_i hs
            simp only [bC, beq_iff_eq] at hs
            simp only [aS, bJ] at h
            obtain ⟨rfl, rfl⟩ := h
            simp only [bC] at hb
            by_cases hca : cc < a.size
            · obtain ⟨u, a1, a2, a3⟩ := hc 0 x rfl cc (by rw [hs.1]; exact hca)
              simp only [aP, Nat.zero_add] at a1
              refine ⟨u, a1, a2, ?_⟩
              show (if cc < a.size then a.cell y1 cc else b.cell z (cc - a.size)) w G u
              rw [if_pos hca]
              -- the field, as data
              cases x with
              | dv u0 y0 =>
                simp only [TV.as] at hy1
                split at hy1
                · rename_i e; subst e
                  simp only [aS, bJ] at hy1
                  obtain ⟨rfl, _⟩ := hy1
                  exact a3
                · cases a with
                  | sl v =>
                    have hna : u0.agg = false := by
                      cases u0 <;> first | rfl | simp [wK, I4, TV.lM] at hy1
                    have := MX (π := π) (w := w) (G := G) hy1 hb.1 (z := u) (show VR w G π O (.dv u0 y0) u from (DT.val_one hna).2 (by
                      have h0 : cc = 0 := by simp only [DT.size] at hca; omega
                      subst h0; exact a3))
                    exact (DT.val_one rfl).1 this
                  | fJ v =>
                    have hna : u0.agg = false := by
                      cases u0 <;> first | rfl | simp [wK, I4, TV.lM] at hy1
                    have := MX (π := π) (w := w) (G := G) hy1 hb.1 (z := u) (show VR w G π O (.dv u0 y0) u from (DT.val_one hna).2 (by
                      have h0 : cc = 0 := by simp only [DT.size] at hca; omega
                      subst h0; exact a3))
                    exact (DT.val_one rfl).1 this
                  | iT T1 t1 r1 =>
                    have hna : u0.agg = false := by
                      cases u0 <;> first | rfl | simp [wK] at hy1
                    have := MX (π := π) (w := w) (G := G) hy1 hb.1 (z := u) (show VR w G π O (.dv u0 y0) u from (DT.val_one hna).2 (by
                      have h0 : cc = 0 := by simp only [DT.size] at hca; omega
                      subst h0; exact a3))
                    exact (DT.val_one rfl).1 this
                  | _ => simp [wK] at hy1
              | _ =>
                have ha1 : a.size = 1 := hs.1.symm
                have hag : ∀ v : Value, a.val y1 w G v -> v = u -> v.oneCell' = true -> a.cell y1 cc w G u := fun v hv e he => by
                  subst e
                  cases hag : a.agg with
                  | false => have h0 : cc = 0 := by omega
                             subst h0; exact (DT.val_one hag).1 hv
                  | true =>
                    obtain ⟨vs, rfl, _⟩ := (DT.oG hag).1 hv
                    cases he
                exact hag u (TV.qL hy1 hb.1 hs.2 (π := π) (v := u) a3) rfl a2
            · have BO : cc < a.size + b.size := hcc
              obtain ⟨u, a1, a2, a3⟩ := ihb (cells := fun q => cells (a.size + q)) hz hb.2 (fun j x' hx' cc' BO => by
                obtain ⟨u, a1, a2⟩ := hc (j + 1) x' (by simpa using hx') cc' BO
                refine ⟨u, ?_, a2⟩
                simp only [aP, hs.1] at a1
                rw [<- a1]; congr 1; omega) (cc - a.size) (by omega)
              refine ⟨u, by rw [<- a1]; congr 1; omega, a2, ?_⟩
              show (if cc < a.size then a.cell y1 cc else b.cell z (cc - a.size)) w G u
              rw [if_neg hca]; exact a3
          · cases h
        · cases h
      · cases h
  | _ => intro fs y b cells h; cases fs <;> simp [uN] at h
theorem Um {q : Prop} [Decidable q] {p : Option Addr} {f : Addr -> Addr} : (if q then p else p.map f) = none ↔ p = none := by
 split
 ·rfl
 ·simp
set_option maxHeartbeats 1000000 in
theorem ah5 (hT : dI P TI) {T : TypeId} (h : noIface (TI T) = true) : ∃ d, P.underlying T = some d /\ ∀ l, d ≠ .interface l := by
 simp only [noIface, Bool.or_eq_true, beq_iff_eq, Option.isSome_iff_exists] at h
 rcases h with ((⟨k, h⟩ | h) | h) | h
 ·exact ⟨_, (hT T).int k h, fun l => by simp⟩
 ·exact ⟨_, (hT T).bool h, fun l => by simp⟩
 ·exact ⟨_, (hT T).string h, fun l => by simp⟩
 ·obtain ⟨e, ie, h1, _⟩ := (hT T).sl h
  exact ⟨_, h1, fun l => by simp⟩
theorem aDK {T : TypeId} {d : TypeDesc} (h : P.underlying T = some d) (hd : ∀ l, d ≠ .interface l) (x : Value) : (Instr.makeInterface T x).run P w = .ok (.iface T x) w := by
 simp only [Instr.makeInterface, Sem.run_bind, run_underlying h, Result.andThen_ok]
 cases d <;> first | exact absurd rfl (hd _) | rfl
theorem aDE {T X : TypeId} {d : TypeDesc} (h : P.underlying T = some d) (hd : ∀ l, d ≠ .interface l) {i : TypeInfo} (hi : P.info? T = some i) {z : Value} (hz : i.zero = some z) (v : Value) :
  (∀ u, v = .iface T u -> (Instr.typeAssert v X T true).run P w = .ok (.tuple #[u, .bool true]) w) /\ ((v = .nilIface \/ ∃ T' u, v = .iface T' u /\ T' ≠ T) -> (Instr.typeAssert v X T true).run P w = .ok (.tuple #[z, .bool false]) w) := by
 constructor
 ·rintro u rfl
  simp only [Instr.typeAssert, Sem.run_bind, run_underlying h, Result.andThen_ok]
  cases d <;> first | exact absurd rfl (hd _) | simp
 ·rintro (rfl | ⟨T', u, rfl, hne⟩)
  ·simp only [Instr.typeAssert, Sem.run_bind, run_underlying h, Result.andThen_ok]
   cases d <;> first | exact absurd rfl (hd _) | simp [zeroValue, typeInfo, hi, hz]
  ·simp only [Instr.typeAssert, Sem.run_bind, run_underlying h, Result.andThen_ok]
   cases d <;> first | exact absurd rfl (hd _) | simp [zeroValue, typeInfo, hi, hz, hne]
theorem akV {T e : TypeId} {p : Option Addr} (h : P.underlying T = some (.pointer e)) : (Op.equal T (.pointer p) (.pointer none)).run P w = .ok p.isNone w := by
 show (Op.equalIn (9999 + 1) T _ _).run P w = _
 unfold Op.equalIn
 simp only [Sem.run_bind, run_underlying h, Result.andThen]
 cases p <;> rfl
theorem aq8 (t : TypeId) (p q : Option Addr) : binOp .eql t (.pointer p) (.pointer q) = (do pure (.bool (<- Op.equal t (.pointer p) (.pointer q)))) := rfl
theorem arC (t : TypeId) (p q : Option Addr) : binOp .neq t (.pointer p) (.pointer q) = (do pure (.bool (!(<- Op.equal t (.pointer p) (.pointer q))))) := rfl
theorem aGN (hT : dI P TI) {o : Oper} {x : TV} {b : Bool} (hp : oD TI TY s.ev (aA s.ob) o.op = some (x, b)) (hb : b = true) (hm : aI c F π s a w) :
  ∃ v, (execOp a.eval o).run P w = .ok (.value v) w /\ VR w (Gz F w π (aA s.ob)) π (aA s.ob) x v := by
 obtain ⟨dst, op, ty, pos, after, guard⟩ := o
 simp only at hp
 cases op with
 | slice T y lo hi mx =>
  simp only [oD] at hp
  have hv := hm.ev y
  have fin : ∀ {v : Value}, (Instr.sliceAt T (a.eval y) (lo.map a.eval) (hi.map a.eval) (mx.map a.eval)).run P w = .ok v w -> (execOp a.eval ⟨dst, .slice T y lo hi mx, ty, pos, after, guard⟩).run P w = .ok (.value v) w := fun h => eP (e := Instr.sliceAt T (a.eval y) (lo.map a.eval) (hi.map a.eval) (mx.map a.eval)) rfl h
  have opt : ∀ {o : Option Operand} {r : Option Int}, kG s.ev o = some r -> (o.map a.eval = none /\ r = none) \/ ∃ k z, o.map a.eval = some (.int k z) /\ r = some z := fun h => by
   rcases Uo hm h with ⟨rfl, rfl⟩ | ⟨x, k, z, rfl, rfl, e⟩
   ·exact .inl ⟨rfl, rfl⟩
   ·exact .inr ⟨k, z, by simp [e], rfl⟩
  -- frozen slices
  have frozen : ∀ {t : DT} {l : List t.den} {ra rb : Option Int}, mx.map a.eval = none -> kG s.ev lo = some ra -> kG s.ev hi = some rb -> (DT.sl t).cell l 0 w (Gz F w π (aA s.ob)) (a.eval y) -> (TI T).kd = 2 -> (TI T).elem = t.size -> rU l.length ra rb = true -> ∃ v, (execOp a.eval ⟨dst, .slice T y lo hi mx, ty, pos, after, guard⟩).run P w = .ok (.value v) w /\ VR w (Gz F w π (aA s.ob)) π (aA s.ob) (.dv (.sl t) (BL l ra rb)) v := fun {t l ra rb} h0 h1 h2 hc hk he hcb => by
   obtain ⟨e, ie, b1, b2, b3, _⟩ := (hT T).sl hk
   obtain ⟨p, cap, e1, n1, n2, n3, n4, n5⟩ := id hc
   obtain ⟨c1, c2, _, _⟩ := BK hcb
   refine ⟨_, fin (by rw [h0, e1]; exact J9 b1 b2 n1 (opt h1) (opt h2) hcb), (DT.val_one rfl).2 ?_⟩
   rw [Ap]
   rw [e1] at hc
   exact alA hc c1 c2 (by omega) (Nat.le_refl _) _ _ (fun hlt => by rw [if_neg (by omega), b3, he]) (fun hpn => by subst hpn; split <;> rfl) trivial (fun h => Um.1 h)
  split at hp
  ·rename_i ra rb h1 h2 h3
   have hmx : mx.map a.eval = none := by
    rcases opt h3 with ⟨h, _⟩ | ⟨_, _, _, h⟩
    ·exact h
    ·cases h
   split at hp
   ·rename_i id hy
    rw [hy] at hv
    have hv0 := hv
    simp only [VR] at hv
    split at hp
    ·rename_i t l ho
     rw [ho] at hv
     simp only at hv
     split at hp
     ·rename_i hk
      simp only [bC, beq_iff_eq] at hk
      simp only [aS, bJ] at hp
      obtain ⟨rfl, rfl⟩ := hp
      obtain ⟨e, ie, b1, b2, b3, _⟩ := (hT T).sl hk.1
      obtain ⟨c1, c2, _, _⟩ := BK hb
      rcases hm.obj id _ ho with ⟨o1, o2⟩ | ⟨g, cur, e', o1, o2, o3, o4, o5, o6⟩
      ·subst o2
       simp only [List.length_nil] at c1 c2 hb
       have hv' : a.eval y = .slice none 0 0 := by rw [hv, Pl.hdr, o1]
       refine ⟨_, fin (by rw [hmx, hv']; exact J9 b1 b2 (Nat.le_refl _) (opt h1) (opt h2) hb), ?_⟩
       have e1 : hiN 0 rb = 0 := by omega
       have e2 : jA ra = 0 := by omega
       simp only [VR, ho]
       exact ⟨by simp [e1, e2], by simp [e1], _, _, rfl, by simp [e1, e2], by simp [maxLen], fun _ => by omega, fun h => by simp [e1, e2] at h⟩
      ·have hv' : a.eval y = .slice (some ⟨g, (π id).q, none⟩) l.length (π id).cap := by rw [hv, Pl.hdr, o1]
       refine ⟨_, fin (by rw [hmx, hv']; exact J9 b1 b2 o3 (opt h1) (opt h2) hb), ?_⟩
       simp only [VR, ho]
       refine ⟨c1, c2, _, _, rfl, by omega, by omega, fun h => by split at h <;> simp at h, fun hlt => ⟨g, o1, ?_⟩⟩
       ·rw [if_neg (by omega)]; simp [add_lit, b3, hk.2]
     ·cases hp
    ·rename_i t l ho
     rw [ho] at hv
     simp only at hv
     split at hp
     ·rename_i hk
      simp only [bC, beq_iff_eq] at hk
      simp only [aS, bJ] at hp
      obtain ⟨rfl, rfl⟩ := hp
      exact frozen hmx h1 h2 hv hk.1 hk.2 hb
     ·cases hp
    ·cases hp
   ·rename_i id i j hy
    rw [hy] at hv
    simp only [VR] at hv
    split at hp
    ·rename_i t l ho
     rw [ho] at hv
     simp only at hv
     split at hp
     ·rename_i hk
      simp only [bC, beq_iff_eq] at hk
      simp only [aS, bJ] at hp
      obtain ⟨rfl, rfl⟩ := hp
      obtain ⟨e, ie, b1, b2, b3, _⟩ := (hT T).sl hk.1
      obtain ⟨c1, c2, _, _⟩ := BK hb
      obtain ⟨v1, v2, p, cp, hv', v4, v5, v6, v7⟩ := hv
      refine ⟨_, fin (by rw [hmx, hv']; exact J9 b1 b2 v4 (opt h1) (opt h2) hb), ?_⟩
      simp only [VR, ho]
      rw [show i + hiN (j - i) rb - (i + jA ra) = hiN (j - i) rb - jA ra by omega]
      refine ⟨by omega, by omega, _, _, rfl, ?_, ?_, fun h => ?_, fun hlt => ?_⟩
      ·omega
      ·omega
      ·have := v6 (Um.1 h); omega
      ·obtain ⟨g, hg, rfl⟩ := v7 (by omega)
       refine ⟨g, hg, ?_⟩
       rw [if_neg (by omega)]
       simp only [Option.map_some, add_lit, b3, hk.2, Nat.add_mul, Nat.add_assoc]
     ·cases hp
    ·rename_i t l ho
     rw [ho] at hv
     simp only at hv
     split at hp
     ·rename_i hk
      simp only [bC, beq_iff_eq] at hk
      simp only [aS, bJ] at hp
      obtain ⟨rfl, rfl⟩ := hp
      exact frozen hmx h1 h2 hv hk.1 hk.2 hb
     ·cases hp
    ·cases hp
   ·rename_i id i p hy
    rw [hy] at hv
    split at hp
    ·rename_i ob ho
     split at hp
     ·rename_i n u y0 hpart
      split at hp
      ·rename_i hk
       simp only [bC, beq_iff_eq] at hk
       simp only [aS, bJ] at hp
       obtain ⟨rfl, rfl⟩ := hp
       simp only [bC, fH] at hb
       obtain ⟨hcb, hn⟩ := hb
       obtain ⟨e, ie, b1, b2, b3⟩ := (hT T).arr hk.1.1
       obtain ⟨g, k0, q1, q2, q3, q4, q5⟩ := hm.part ho hv hpart
       obtain ⟨c1, c2, c3, c4⟩ := BK hcb
       have hrun : (Instr.sliceAt T (a.eval y) (lo.map a.eval) (hi.map a.eval) (mx.map a.eval)).run P w = .ok (.slice (some (if n = jA ra then ⟨g, (π id).q + k0, none⟩ else (⟨g, (π id).q + k0, none⟩ : Addr).add (jA ra * ie.size))) (hiN n rb - jA ra) (n - jA ra)) w := by
        rw [hmx, q4]
        rw [hk.2] at b1
        rcases opt h1 with ⟨e1, rfl⟩ | ⟨kl, zl, e1, rfl⟩ <;> rcases opt h2 with ⟨e2, rfl⟩ | ⟨kh, zh, e2, rfl⟩ <;> rw [e1, e2] <;> simp only [jA, hiN] at c1 c2 ⊢
        ·simp [Instr.sliceAt, run_underlying b1, Instr.sureAddr, Instr.sliceBounds, sizeOf, typeInfo, b2]
        ·simp [Instr.sliceAt, run_underlying b1, Instr.sureAddr, Instr.sliceBounds, sizeOf, typeInfo, b2, sG (P := P) (w := w) kh (y := n) _ (c4 _ rfl) (by omega)]
        ·simp [Instr.sliceAt, run_underlying b1, Instr.sureAddr, Instr.sliceBounds, sizeOf, typeInfo, b2, sG (P := P) (w := w) kl (y := n) _ (c3 _ rfl) c1]
         congr
        ·simp [Instr.sliceAt, run_underlying b1, Instr.sureAddr, Instr.sliceBounds, sizeOf, typeInfo, b2, sG (P := P) (w := w) kh (y := n) _ (c4 _ rfl) (by omega), sG (P := P) (w := w) kl (y := zh.toNat) _ (c3 _ rfl) c1]
         congr
       refine ⟨_, fin hrun, ?_⟩
       simp only [VR, ho]
       refine fun _ => ⟨k0, g, _, q1, q2, q3, c1, c2, by simp only [maxLen]; omega, rfl, fun hlt => ?_⟩
       rw [if_neg (by omega), add_lit, b3, hk.1.2]
      ·cases hp
     ·cases hp
    ·cases hp
   ·rename_i t x p hy
    rw [hy] at hv
    split at hp
    ·rename_i n u l hL
     split at hp
     ·rename_i hk
      simp only [bC, beq_iff_eq, Option.isNone_iff_eq_none] at hk
      obtain ⟨⟨⟨⟨k1, k2⟩, k3⟩, k4⟩, k5⟩ := hk
      simp only [aS, bJ] at hp
      obtain ⟨rfl, rfl⟩ := hp
      simp only [bC, fH] at hb
      obtain ⟨⟨hl, hn⟩, hpos⟩ := hb
      subst k4; subst k5
      obtain ⟨L', e1, e2⟩ := Option.map_eq_some_iff.1 hL
      obtain ⟨b0, o, L, g1, g2, g3, g4, g5⟩ := hv
      rw [e1] at g1; obtain rfl := aC g1
      have hh := yQ.part (show yQ w _ b0 o t x from g5) e1 g2
      have mv : ∀ q : (u : DT) × u.den, q = ⟨.arr n u, l⟩ -> yQ w (Gz F w π (aA s.ob)) b0 (o + L'.off) q.1 q.2 -> yQ w (Gz F w π (aA s.ob)) b0 (o + L'.off) (.arr n u) l := fun q q1 q2 => by subst q1; exact q2
      have hh := mv _ e2 hh
      obtain ⟨e, ie, b1, b2, b3⟩ := (hT T).arr k1
      have hrun : (Instr.sliceAt T (a.eval y) (lo.map a.eval) (hi.map a.eval) (mx.map a.eval)).run P w = .ok (.slice (some ⟨b0, o + L'.off, none⟩) n n) w := by
       rw [hmx, g3]
       rw [k3] at b1
       rcases opt h1 with ⟨e3, _⟩ | ⟨_, _, _, h⟩
       rotate_left
       ·cases h
       rcases opt h2 with ⟨e4, _⟩ | ⟨_, _, _, h⟩
       rotate_left
       ·cases h
       rw [e3, e4]
       simp [Instr.sliceAt, run_underlying b1, Instr.sureAddr, Instr.sliceBounds, sizeOf, typeInfo, b2]
       intro _; rfl
      have hval : (Value.slice (some ⟨b0, o + L'.off, none⟩) n n) = .slice (some ⟨b0, o + L'.off, none⟩) (List.length l) n := by rw [hl]
      refine ⟨_, fin hrun, (DT.val_one (t := .sl u) rfl).2 ?_⟩
      rw [hval]
      refine ⟨_, _, rfl, by omega, by simp only [maxLen]; omega, (fun h => by cases h), trivial, fun _ => ⟨b0, _, rfl, g4, fun i hi c hc => ?_⟩⟩
      have hsz : i * u.size + c < (DT.arr n u).size := by
       have : (i + 1) * u.size <= n * u.size := Nat.mul_le_mul_right _ (by omega)
       rw [Nat.add_mul] at this
       simp only [DT.size]; omega
      obtain ⟨z, a1, a2, a3⟩ := hh (i * u.size + c) hsz
      have d1 : (i * u.size + c) / u.size = i := by rw [Nat.mul_comm, Nat.mul_add_div (by omega), Nat.div_eq_of_lt hc]; omega
      have d2 : (i * u.size + c) % u.size = c := by rw [Nat.mul_comm, Nat.mul_add_mod, Nat.mod_eq_of_lt hc]
      have a3 : u.cell (List.getD l ((i * u.size + c) / u.size) u.dflt) ((i * u.size + c) % u.size) w (Gz F w π (aA s.ob)) z := a3
      rw [d1, d2] at a3
      exact ⟨z, by rw [<- a1]; congr 2; omega, a2, a3⟩
     ·cases hp
    ·cases hp
   ·rename_i l hy
    rw [hy] at hv
    split at hp
    ·rename_i hk
     simp only [aS, bJ] at hp
     obtain ⟨rfl, rfl⟩ := hp
     have hv' : a.eval y = .string ⟨⟨l⟩⟩ := (DT.val_one (t := .str) rfl).1 hv
     have b1 := (hT T).string hk
     obtain ⟨c1, c2, c3, c4⟩ := BK hb
     have hsz : (ByteArray.mk ⟨l⟩).size = l.length := rfl
     have hrun : (Instr.sliceAt T (a.eval y) (lo.map a.eval) (hi.map a.eval) (mx.map a.eval)).run P w = .ok (.string ((ByteArray.mk ⟨l⟩).extract (jA ra) (hiN (ByteArray.mk ⟨l⟩).size rb))) w := by
      rw [hmx, hv']
      generalize ByteArray.mk ⟨l⟩ = B at hsz ⊢
      rcases opt h1 with ⟨e1, rfl⟩ | ⟨kl, zl, e1, rfl⟩ <;> rcases opt h2 with ⟨e2, rfl⟩ | ⟨kh, zh, e2, rfl⟩ <;> rw [e1, e2] <;> simp only [jA, hiN] at c1 c2 ⊢
      ·simp [Instr.sliceAt, Instr.slice, run_underlying b1, Instr.sliceBounds]
      ·simp [Instr.sliceAt, Instr.slice, run_underlying b1, Instr.sliceBounds, sG (P := P) (w := w) kh (y := B.size) _ (c4 _ rfl) (by omega)]
      ·simp [Instr.sliceAt, Instr.slice, run_underlying b1, Instr.sliceBounds, sG (P := P) (w := w) kl (y := B.size) _ (c3 _ rfl) (by omega)]
      ·simp [Instr.sliceAt, Instr.slice, run_underlying b1, Instr.sliceBounds, sG (P := P) (w := w) kh (y := B.size) _ (c4 _ rfl) (by omega), sG (P := P) (w := w) kl (y := zh.toNat) _ (c3 _ rfl) c1]
     refine ⟨_, fin hrun, (DT.val_one (t := .str) rfl).2 ?_⟩
     show _ = Value.string ⟨⟨BL l ra rb⟩⟩
     rw [Ap, hsz]
     congr 1
     apply ByteArray.ext
     apply Array.ext'
     simp [ByteArray.data_extract, List.drop_take]
    ·cases hp
   ·split at hp
    ·rename_i t l hf
     split at hp
     ·rename_i hk
      simp only [bC, beq_iff_eq] at hk
      simp only [aS, bJ] at hp
      obtain ⟨rfl, rfl⟩ := hp
      exact frozen hmx h1 h2 (TV.NH hf hv) hk.1 hk.2 hb
     ·cases hp
    ·cases hp
  ·rename_i ra zb zm h1 h2 h3
   split at hp
   ·rename_i t l hf
    split at hp
    ·rename_i hk
     simp only [bC, beq_iff_eq] at hk
     simp only [aS, bJ] at hp
     obtain ⟨rfl, rfl⟩ := hp
     simp only [bC, fH] at hb
     obtain ⟨hcb, rfl⟩ := hb
     have hc := TV.NH hf hv
     obtain ⟨e, ie, b1, b2, b3, _⟩ := (hT T).sl hk.1
     obtain ⟨p, cap, e1, n1, n2, n3, n4, n5⟩ := id hc
     obtain ⟨c1, c2, _, _⟩ := BK hcb
     rcases opt h2 with ⟨_, h⟩ | ⟨kh, z', e2, h⟩
     ·cases h
     ·obtain rfl := aC h
      rcases opt h3 with ⟨_, h⟩ | ⟨km, z'', e3, h⟩
      ·cases h
      ·obtain rfl := aC h
       refine ⟨_, fin (by rw [e2, e3, e1]; exact aDL b1 b2 n1 (opt h1) hcb), (DT.val_one rfl).2 ?_⟩
       rw [Ap]
       rw [e1] at hc
       simp only [hiN] at c1 c2 ⊢
       exact alA hc c1 c2 (Nat.le_refl _) (by omega) _ _ (fun hlt => by rw [if_neg (by omega), b3, hk.2]) (fun hpn => by subst hpn; split <;> rfl) rfl (fun h => Um.1 h)
    ·cases hp
   ·cases hp
  ·cases hp
 | load T p =>
  simp only [oD] at hp
  have hv := hm.ev p
  split at hp
  ·rename_i id i hy
   rw [hy] at hv
   split at hp
   ·rename_i fs ho
    split at hp
    ·rename_i y b' awD
     split at hp
     ·rename_i hk
      simp only [bC, Bool.or_eq_true, beq_iff_eq] at hk
      simp only [aS, bJ] at hp
      obtain ⟨rfl, rfl⟩ := hp
      obtain ⟨hk, hi0⟩ := hk
      subst hi0
      simp only [VR, ho] at hv
      obtain ⟨k0, g, q1, q2, q3, q4⟩ := hv rfl
      simp only [TO.loc, aS] at q1
      subst q1
      obtain ⟨g', cur, e', r1, r2, r3⟩ := hm.obj id _ ho
      rw [q3] at r1; obtain rfl := aC r1
      have hh : yQ w (Gz F w π (aA s.ob)) g ((π id).q) (TY T) y := acM (π := π) (O := aA s.ob) (cells := fun q => w.cell? ⟨g, (π id).q + q, none⟩) awD hb fun j x hx cc hcc => by
       obtain ⟨u, a1, a2⟩ := r3 j x hx cc hcc
       exact ⟨u, by rw [tH r2.1, <- a1]; congr 1; omega, a2⟩
      have awX : OO (TI T) (TY T) = true := by
       unfold OO
       rw [if_pos hk.2]
       simp [hk.1.1, hk.1.2]
      obtain ⟨v, h1, h2⟩ := run_load (P := P) hT awX hh
      exact ⟨v, eP (e := Instr.loadAt T (a.eval p)) rfl (by rw [q4]; exact h1), h2⟩
     ·cases hp
    ·cases hp
   ·cases hp
  ·cases hp
 | makeInterface T y =>
  simp only [oD] at hp
  have hv := hm.ev y
  split at hp
  ·rename_i t z he
   rw [he] at hv
   split at hp
   ·rename_i hc
    simp only [bC, Bool.not_eq_true'] at hc
    simp only [aS, bJ] at hp
    obtain ⟨rfl, rfl⟩ := hp
    obtain ⟨d, h1, h2⟩ := ah5 hT hc.2
    have hc' := (DT.val_one hc.1.1).1 hv
    exact ⟨_, eP (e := Instr.makeInterface T (a.eval y)) rfl (aDK h1 h2 _), (DT.val_one rfl).2 ⟨_, rfl, DT.SG hc', hc'⟩⟩
   ·cases hp
  ·cases hp
 | typeAssert y X T ok =>
  have hv := hm.ev y
  cases ok with
  | false => simp [oD] at hp
  | true =>
  simp only [oD] at hp
  split at hp
  ·rename_i u z he
   rw [he] at hv
   split at hp
   ·rename_i t f hh
    split at hp
    ·rename_i hc
     simp only [bC, bne_iff_ne, ne_eq] at hc
     obtain ⟨⟨⟨c1, c2⟩, c3⟩, c4⟩ := hc
     simp only [aS, bJ] at hp
     obtain ⟨rfl, rfl⟩ := hp
     obtain ⟨d, h1, h2⟩ := ah5 hT c2
     obtain ⟨i, i1, _, i3⟩ := (hT T).info c3
     obtain ⟨g1, g2⟩ := DT.awO c1 hh
     have hag : u.agg = false := by cases u <;> first | rfl | simp [DT.chain] at c1
     have hc' := (DT.val_one hag).1 hv
     obtain ⟨r1, r2⟩ := aDE (P := P) (w := w) (X := X) h1 h2 i1 i3 (a.eval y)
     rcases DT.awN c1 hh hc' with ⟨b, q, e1, e2, e3⟩ | ⟨e1, e2⟩
     ·refine ⟨_, eP (e := Instr.typeAssert (a.eval y) X T true) rfl (r1 q e2), _, rfl, rfl, fun j hj => ?_⟩
      match j, hj with
      | 0, _ => exact ⟨q, rfl, by show VR w _ π _ (.dv t ((f z).getD t.dflt)) q; rw [e1]; exact (DT.val_one g1).2 e3⟩
      | 1, _ => exact ⟨_, rfl, by show VR w _ π _ (.dv .bool (f z).isSome) _; rw [e1]; exact (DT.val_one (t := .bool) rfl).2 rfl⟩
     ·refine ⟨_, eP (e := Instr.typeAssert (a.eval y) X T true) rfl (r2 e2), _, rfl, rfl, fun j hj => ?_⟩
      match j, hj with
      | 0, _ => exact ⟨_, rfl, by show VR w _ π _ (.dv t ((f z).getD t.dflt)) _; rw [e1]; exact BU g2 c4⟩
      | 1, _ => exact ⟨_, rfl, by show VR w _ π _ (.dv .bool (f z).isSome) _; rw [e1]; exact (DT.val_one (t := .bool) rfl).2 rfl⟩
    ·cases hp
   ·cases hp
  ·cases hp
 | nilCheck y =>
  have hv := hm.ev y
  simp only [oD] at hp
  split at hp
  ·rename_i t z he
   rw [he] at hv
   simp only [aS, bJ] at hp
   obtain ⟨rfl, rfl⟩ := hp
   have hc := (DT.val_one (t := .fp t) rfl).1 hv
   cases z with
   | none => cases hb
   | some z =>
    obtain ⟨b0, o0, e1, e2⟩ := id hc
    exact ⟨_, by simp [execOp, e1], e1 ▸ hv⟩
  ·cases hp
 | fieldAddr T y k =>
  have hv := hm.ev y
  simp only [oD] at hp
  split at hp
  ·rename_i t z he
   rw [he] at hv
   split at hp
   ·rename_i r off sz hr ho
    split at hp
    ·rename_i hk
     simp only [bC, beq_iff_eq] at hk
     obtain ⟨⟨k1, k2⟩, k3⟩ := hk
     simp only [aS, bJ] at hp
     obtain ⟨rfl, rfl⟩ := hp
     have hc := (DT.val_one (t := .fp t) rfl).1 hv
     cases z with
     | none => cases hb
     | some z =>
      obtain ⟨b0, o0, e1, e2, e3⟩ := hc
      refine ⟨_, eP (e := Instr.fieldAt T (a.eval y) k) rfl (by rw [e1]; exact Ju hT k1 ho), b0, o0, r, hr, DT.UE k3, by rw [k2], e2, e3⟩
    ·cases hp
   ·cases hp
  ·cases hp
 | binOp bo T y z t2 =>
  have hv := hm.ev y
  have hz := hm.ev z
  simp only [oD] at hp
  split at hp
  ·rename_i t q he he2
   rw [he] at hv
   rw [he2] at hz
   split at hp
   ·rename_i hk
    obtain ⟨e, b1⟩ := (hT T).ptr hk
    have hz' : a.eval z = .pointer none := hz
    have hc := (DT.val_one (t := .fp t) rfl).1 hv
    obtain ⟨p, hp1, hp2⟩ : ∃ p, a.eval y = .pointer p /\ p.isNone = q.isNone := by
     cases q with
     | none => exact ⟨none, hc, rfl⟩
     | some q => obtain ⟨b0, o0, e1, _⟩ := hc; exact ⟨_, e1, rfl⟩
    have hg := fun op => OC (P := P) (w := w) (op := op) (T := T) (ox := y) (oy := z) (u := .pointer p) (v := .pointer none) (by intro _ _ h; cases h) (by intro h; cases h)
    cases bo <;> simp only [aS, bJ, reduceCtorEq] at hp
    ·obtain ⟨rfl, rfl⟩ := hp
     exact ⟨.bool p.isNone, eP (e := do eqGuard .eql T y z (a.eval y) (a.eval z); binOp .eql T (a.eval y) (a.eval z)) rfl (by rw [hp1, hz']; simp [hg, aq8, akV b1]), by rw [hp2]; rfl⟩
    ·obtain ⟨rfl, rfl⟩ := hp
     exact ⟨.bool (!p.isNone), eP (e := do eqGuard .neq T y z (a.eval y) (a.eval z); binOp .neq T (a.eval y) (a.eval z)) rfl (by rw [hp1, hz']; simp [hg, arC, akV b1]), by rw [hp2]; rfl⟩
   ·cases hp
  ·cases hp
 | _ => simp [oD] at hp
end
end
section
def oN {kt vt : DT} : List (kt.den × vt.den) -> kt.den -> Option vt.den
 | [], _ => none
 | p :: r, x => cond (kt.beq x p.1) (some p.2) (oN r x)
def wV {kt vt : DT} : List (kt.den × vt.den) -> kt.den -> vt.den -> List (kt.den × vt.den)
 | [], x, y => [(x, y)]
 | p :: r, x, y => cond (kt.beq x p.1) ((x, y) :: r) (p :: wV r x y)
def tV {kt vt : DT} (x : kt.den) : List (kt.den × vt.den) -> Option Nat
 | [] => none
 | p :: r => cond (kt.beq x p.1) (some 0) ((tV x r).map (· + 1))
theorem Xd {kt vt : DT} {x : kt.den} : ∀ {l : List (kt.den × vt.den)}, tV x l = none -> oN l x = none /\ ∀ y, wV l x y = l ++ [(x, y)]
 | [], _ => ⟨rfl, fun _ => rfl⟩
 | p :: r, h => by
  simp only [tV] at h
  cases hb : kt.beq x p.1 with
  | true => rw [hb] at h; cases h
  | false =>
   rw [hb] at h
   simp only [cond_false, Option.map_eq_none_iff] at h
   obtain ⟨a, b⟩ := Xd h
   exact ⟨by simp only [oN, hb, cond_false]; exact a, fun y => by simp only [wV, hb, cond_false, b y, List.cons_append]⟩
theorem Xe {kt vt : DT} {x : kt.den} : ∀ {l : List (kt.den × vt.den)} {i : Nat}, tV x l = some i -> ∃ p, l[i]? = some p /\ kt.beq x p.1 = true /\ oN l x = some p.2 /\ ∀ y, wV l x y = l.set i (x, y)
 | [], i, h => by cases h
 | p :: r, i, h => by
  simp only [tV] at h
  cases hb : kt.beq x p.1 with
  | true =>
   rw [hb] at h
   simp only [cond_true, aS] at h
   subst h
   exact ⟨p, rfl, hb, by simp only [oN, hb, cond_true], fun y => by simp only [wV, hb, cond_true, List.set_cons_zero]⟩
  | false =>
   rw [hb] at h
   simp only [cond_false, Option.map_eq_some_iff] at h
   obtain ⟨j, hj, rfl⟩ := h
   obtain ⟨q, a, b, c, d⟩ := Xe hj
   exact ⟨q, by simpa using a, b, by simp only [oN, hb, cond_false]; exact c, fun y => by simp only [wV, hb, cond_false, d y, List.set_cons_succ]⟩
section
variable {P : Program} {kt vt : DT} {w : World} {G : Nat -> Prop}
def DL (w : World) (G : Nat -> Prop) (es : List MapEntry) (l : List (kt.den × vt.den)) : Prop :=
 es.length = l.length /\ ∀ (i : Nat) (e : MapEntry) (p : kt.den × vt.den), es[i]? = some e -> l[i]? = some p -> kt.val p.1 w G e.key /\ vt.val p.2 w G e.val
theorem DL.tail {e : MapEntry} {es : List MapEntry} {p : kt.den × vt.den} {l : List (kt.den × vt.den)} (h : DL w G (e :: es) (p :: l)) : (kt.val p.1 w G e.key /\ vt.val p.2 w G e.val) /\ DL w G es l :=
 ⟨h.2 0 e p rfl rfl, by have := h.1; simpa using this, fun i e' p' he hp => h.2 (i + 1) e' p' (by simpa using he) (by simpa using hp)⟩
def xY (es : List MapEntry) (n : Nat) : Option Nat -> Option (Nat × Value)
 | none => none
 | some i => some (n + i, (es[i]?.map (·.val)).getD undef)
theorem agX (e : MapEntry) (es : List MapEntry) (n : Nat) (r : Option Nat) : xY (e :: es) n (r.map (· + 1)) = xY es (n + 1) r := by
 cases r with
 | none => rfl
 | some i => simp only [Option.map_some, xY, List.getElem?_cons_succ]; congr 2; omega
theorem aeV {k : TypeId} {d : TypeDesc} (afI : ∀ (x y : kt.den) (w : World) (G : Nat -> Prop) (u v : Value), kt.val x w G u -> kt.val y w G v -> Instr.sameNow d u v = some (kt.beq x y)) {x : kt.den} {u : Value} (hu : kt.val x w G u) :
  ∀ (es : List MapEntry) (l : List (kt.den × vt.den)) (n : Nat), DL w G es l -> Instr.findNow d u es n = some (xY es n (tV x l))
 | [], [], n, h => rfl
 | [], _ :: _, n, h => by have := h.1; simp at this
 | _ :: _, [], n, h => by have := h.1; simp at this
 | e :: es, p :: l, n, h => by
  obtain ⟨⟨h1, h2⟩, h3⟩ := h.tail
  simp only [Instr.findNow, afI x p.1 w G u e.key hu h1, tV]
  cases hb : kt.beq x p.1 with
  | true => rfl
  | false =>
   simp only [cond_false]
   rw [aeV (k := k) afI hu es l (n + 1) h3, agX]
theorem aeU {k : TypeId} (heq : ∀ (x y : kt.den) (w : World) (G : Nat -> Prop) (u v : Value), kt.val x w G u -> kt.val y w G v -> (Op.equal k u v).run P w = .ok (kt.beq x y) w) {x : kt.den} {u : Value} (hu : kt.val x w G u) :
  ∀ (es : List MapEntry) (l : List (kt.den × vt.den)) (n : Nat), DL w G es l -> (Instr.findAsking k u es n).run P w = .ok (xY es n (tV x l)) w
 | [], [], n, h => rfl
 | [], _ :: _, n, h => by have := h.1; simp at this
 | _ :: _, [], n, h => by have := h.1; simp at this
 | e :: es, p :: l, n, h => by
  obtain ⟨⟨h1, h2⟩, h3⟩ := h.tail
  simp only [Instr.findAsking, Sem.run_bind, heq x p.1 w G u e.key hu h1, Result.andThen_ok, tV]
  cases hb : kt.beq x p.1 with
  | true => rfl
  | false =>
   simp only [cond_false, Bool.false_eq_true, if_false]
   rw [aeU heq hu es l (n + 1) h3, agX]
theorem Rj {k : TypeId} (hk : IE P k kt) {x : kt.den} {u : Value} (hu : kt.val x w G u) {es : List MapEntry} {l : List (kt.den × vt.den)} (h : DL w G es l) : (Instr.findKey k u es).run P w = .ok (xY es 0 (tV x l)) w := by
 obtain ⟨d, h1, h2⟩ := hk.under
 unfold Instr.findKey
 simp only [Sem.run_bind, run_underlying h1, Result.andThen_ok]
 rcases h2 with h2 | ⟨h2, h3⟩
 ·rw [aeV (k := k) h2 hu es l 0 h]; rfl
 ·cases es with
  | nil => cases l with
   | nil => rfl
   | cons p l => have := h.1; simp at this
  | cons e es => cases l with
   | nil => have := h.1; simp at this
   | cons p l =>
    have : Instr.findNow d u (e :: es) 0 = none := by
     simp only [Instr.findNow, h2 x p.1 w G u e.key hu h.tail.1.1]
    rw [this]
    exact aeU h3 hu _ _ 0 h
end
def gI (a b : Int) : Int := if b < a then b else a
def imax (a b : Int) : Int := if b > a then b else a
def U7 (TI : Nat -> TD) (L : bF) (T : Nat) (x y : TV) : Option Eff := none
def Jg : Option TO -> {kt vt : DT} -> List (kt.den × vt.den) -> kt.den -> Bool
 | some (.iI _ _ _), kt, _, l, x => decide ((l.filter fun p => kt.beq x p.1).length <= 1)
 | _, _, _, _, _ => true
theorem Xf {kt vt : DT} (x : kt.den) : ∀ l : List (kt.den × vt.den), oN l x = (l.filter fun p => kt.beq x p.1).head?.map (·.2)
 | [] => rfl
 | p :: r => by
  simp only [oN, List.filter_cons]
  cases kt.beq x p.1 with
  | true => rfl
  | false => exact Xf x r
theorem az2 {kt vt : DT} {x : kt.den} {l l' : List (kt.den × vt.den)} (h : l'.Perm l) (h1 : (l.filter fun p => kt.beq x p.1).length <= 1) : oN l' x = oN l x := by
 have hp := h.filter fun p => kt.beq x p.1
 rw [Xf, Xf]
 generalize (l.filter fun p => kt.beq x p.1) = a at hp h1
 generalize (l'.filter fun p => kt.beq x p.1) = b at hp
 match a, h1, hp with
 | [], _, hp => rw [hp.eq_nil]
 | [y], _, hp => rw [List.perm_singleton.1 hp]
 | _ :: _ :: _, h1, _ => simp at h1
def TO.mapOf : Option TO -> Option ((kt : DT) × (vt : DT) × List (kt.den × vt.den))
 | some (.map kt vt l) => some ⟨kt, vt, l⟩
 | some (.iI kt vt l) => some ⟨kt, vt, l⟩
 | _ => none
def Xl (TI : Nat -> TD) (T : Nat) (vt : DT) : Bool := match vt, (TI T).mp with
 | .sl _, some (_, v) => (match (TI v).zero with
  | .slice none 0 0 => (TI v).kd == 2
  | _ => false)
 | _, _ => false
theorem aAF {P : Program} {TI : Nat -> TD} (hT : dI P TI) {T : Nat} {vt : DT} (h : Xl TI T vt = true) {k0 v0 : TypeId} {i0 : TypeInfo} {z0 : Value} (hu : P.underlying T = some (.map k0 v0)) (hi : P.info? v0 = some i0) (hz : i0.zero = some z0) : z0 = .slice none 0 0 := by
 unfold Xl at h
 split at h
 ·rename_i k v hmp
  split at h
  ·rename_i hzero
   have hk : (TI v).kd = 2 := by simpa using h
   have e := (hT T).map _ _ hmp
   rw [hu] at e
   simp only [aS, TypeDesc.map.injEq] at e
   obtain ⟨i, a1, _, a3⟩ := (hT v).info (by omega)
   rw [<- e.2, hi] at a1
   obtain rfl := aC a1
   rw [hz, hzero] at a3
   exact aC a3
  ·cases h
 ·cases h
def kZ (TI : Nat -> TD) (ev : Operand -> TV) (L : bF) (dst : Option Nat) : Op -> Option Eff
 | .makeMap T r => match dst, (TI T).qM with
  | some d, some (kt, vt) => match L d with
   | some _ => none
   | none => match r with
    | none => some ⟨.row d, [(d, .map kt vt [])], true⟩
    | some x => match ev x with
     | .dv (.int _) _ => some ⟨.row d, [(d, .map kt vt [])], true⟩
     | _ => none
  | _, _ => none
 | .lookup T m ix ok => match ev m with
  | .row id => match TO.mapOf (L id) with
   | some ⟨kt, vt, l⟩ => if (TI T).qM = some (kt, vt) then (match (ev ix).as L kt with
    | some (x, b) => if ok then some ⟨.dM 2 fun i => ([.dv vt ((oN l x).getD vt.dflt), .dv .bool (oN l x).isSome] : List TV).getD i .any, [], b && Jg (L id) l x⟩ else some ⟨if Xl TI T vt && (oN l x).isNone then .nl else .dv vt ((oN l x).getD vt.dflt), [], b && Jg (L id) l x⟩
    | none => none) else none
   | _ => none
  | _ => none
 | .mapUpdate T m k y => match ev m with
  | .row id => match L id with
   | some (.map kt vt l) => if (TI T).qM = some (kt, vt) then (match (ev k).as L kt, (ev y).as L vt with
    | some (x, b), some (z, b') => some ⟨.any, [(id, .map kt vt (wV l x z))], b && b'⟩
    | _, _ => none) else none
   | _ => none
  | _ => none
 | .insert T m k y => match ev m with
  | .row id => match L id with
   | some (.map kt vt l) => if (TI T).qM = some (kt, vt) then (match (ev k).as L kt, (ev y).as L vt with
    | some (x, b), some (z, b') => some ⟨.any, [(id, .map kt vt (wV l x z))], b && b'⟩
    | _, _ => none) else none
   | _ => none
  | _ => none
 | .binOp op T x y _ => match ev x, ev y with
  | .dv (.int k) a, .dv (.int k') b => match op with
   | .shl => some ⟨.dv (.int k) (k.wrap ((a : Int) * 2 ^ min (Int.toNat b) k.bits)), [], decide (0 <= (b : Int))⟩
   | .shr => some ⟨.dv (.int k) (Int.fdiv a (2 ^ min (Int.toNat b) k.bits)), [], decide (0 <= (b : Int))⟩
   | op => if k = k' then (match op with
    | .quo => some ⟨.dv (.int k) (k.wrap (Int.tdiv a b)), [], decide ((b : Int) ≠ 0)⟩
    | .rem => some ⟨.dv (.int k) (Int.tmod a b), [], decide ((b : Int) ≠ 0)⟩
    | _ => none) else none
  | _, _ => none
 | .call cl => match cl.callee, cl.args.toList with
  | .builtin .min, [x, y] => (match ev x, ev y with
   | .dv (.int k) a, .dv (.int k') b => if k = k' then some ⟨.dv (.int k) (gI a b), [], true⟩ else none
   | _, _ => none)
  | .builtin .max, [x, y] => (match ev x, ev y with
   | .dv (.int k) a, .dv (.int k') b => if k = k' then some ⟨.dv (.int k) (imax a b), [], true⟩ else none
   | _, _ => none)
  | .builtin .copy, [x, y] => (match cl.argTypes.toList with
   | [T, _] => U7 TI L T (ev x) (ev y)
   | _ => none)
  | _, _ => none
 | .range T m => match dst, ev m with
  | some d, .row id => match L id, L d with
   | some (.map kt vt l), none => if (TI T).qM = some (kt, vt) then some ⟨.row d, [(d, .iter kt vt l none), (id, .iI kt vt l)], true⟩ else none
   | some (.iI kt vt l), none => if (TI T).qM = some (kt, vt) then some ⟨.row d, [(d, .iter kt vt l none)], true⟩ else none
   | _, _ => none
  | _, _ => none
 | .entry x => match ev x with
  | .row id => match L id with
   | some (.iter kt vt l (some p)) => some ⟨.dM 2 fun i => ([.dv kt p.1, .dv vt p.2] : List TV).getD i .any, [(id, .iter kt vt l none)], true⟩
   | _ => none
  | _ => none
 | _ => none
section
variable {P : Program} {TI : Nat -> TD} {c : Cx} {F : Nat -> Prop} {s : TS} {π : Nat -> Pl} {a : Act} {w : World}
theorem aI.Dt (hm : aI c F π s a w) {id : Nat} {kt vt : DT} {l : List (kt.den × vt.den)} (ho : aA s.ob id = some (.map kt vt l)) : ∃ g es ck, (π id).g = some g /\ w.heap[g]? = some (.map es ck) /\ DL w (Gz F w π (aA s.ob)) es.toList l /\ (∀ (i : Nat) (e : MapEntry), es[i]? = some e -> e.born < ck) /\ (∀ (i j : Nat) (e e' : MapEntry), es[i]? = some e -> es[j]? = some e' -> e.born = e'.born -> i = j) := by
 obtain ⟨g, es, ck, h1, h2, h3, h4, h5, h6⟩ := hm.obj id _ ho
 refine ⟨g, es, ck, h1, h2, ⟨by simpa using h3, fun i e p he hp => ?_⟩, h4, h5⟩
 obtain ⟨x, a1, a2, a3⟩ := h6 i e (by simpa using he)
 rw [hp] at a1; obtain rfl := aC a1
 exact ⟨a2, a3⟩
theorem aI.auM (hm : aI c F π s a w) {id : Nat} {kt vt : DT} {l : List (kt.den × vt.den)} (ho : TO.mapOf (aA s.ob id) = some ⟨kt, vt, l⟩) {v : Value} (hv : VR w (Gz F w π (aA s.ob)) π (aA s.ob) (.row id) v) : ∃ g es ck, v = .map (some g) /\ w.heap[g]? = some (.map es ck) /\ ∃ lx, DL w (Gz F w π (aA s.ob)) es.toList lx /\ ∀ x, Jg (aA s.ob id) l x = true -> oN lx x = oN l x := by
 unfold TO.mapOf at ho
 split at ho
 ·rename_i pX qG l' hq
  simp only [aS, Sigma.mk.injEq] at ho
  obtain ⟨rfl, ho⟩ := ho
  obtain ⟨rfl, ho⟩ := Sigma.mk.inj (eq_of_heq ho)
  obtain rfl := eq_of_heq ho
  obtain ⟨g, es, ck, g1, g2, g3, g4, g5⟩ := hm.Dt hq
  simp only [VR, hq] at hv
  obtain ⟨g', e1, hv⟩ := hv
  rw [g1] at e1; obtain rfl := aC e1
  exact ⟨g, es, ck, hv, g2, _, g3, fun x _ => rfl⟩
 ·rename_i pX qG l' hq
  simp only [aS, Sigma.mk.injEq] at ho
  obtain ⟨rfl, ho⟩ := ho
  obtain ⟨rfl, ho⟩ := Sigma.mk.inj (eq_of_heq ho)
  obtain rfl := eq_of_heq ho
  simp only [VR, hq] at hv
  obtain ⟨lx, h0, g, es, ck, h1, h2, h3, h4, _, _, h5⟩ := hv
  refine ⟨g, es, ck, h1, h3, lx, ⟨by simpa using h4, fun i e p he hp => ?_⟩, fun x hx => az2 h0 (by rw [hq] at hx; exact of_decide_eq_true hx)⟩
  obtain ⟨x, a1, a2, a3⟩ := h5 i e (by simpa using he)
  rw [hp] at a1; obtain rfl := aC a1
  exact ⟨a2, a3⟩
 ·cases ho
theorem aI.U4 (hm : aI c F π s a w) {id g : Nat} {kt vt : DT} {l l' : List (kt.den × vt.den)} (ho : aA s.ob id = some (.map kt vt l)) (hg : (π id).g = some g) {es es' : Array MapEntry} {ck IZ : Nat} (hb : w.heap[g]? = some (.map es ck))
  (h1 : DL w (Gz F w π (aA s.ob)) es'.toList l') (h2 : ∀ (i : Nat) (e : MapEntry), es'[i]? = some e -> e.born < IZ) (h3 : ∀ (i j : Nat) (e e' : MapEntry), es'[i]? = some e -> es'[j]? = some e' -> e.born = e'.born -> i = j) :
  aI c F π ⟨s.sl, (id, .map kt vt l') :: s.ob⟩ a { w with heap := w.heap.setIfInBounds g (.map es' IZ) } := by
 obtain ⟨q1, q2⟩ := MapKept.heap_set (o' := .map es' IZ) hb
 have hsz : (w.heap.setIfInBounds g (.map es' IZ)).size = w.heap.size := by simp
 have E : gK w (Gz F w π (aA s.ob)) π (aA s.ob) { w with heap := w.heap.setIfInBounds g (.map es' IZ) } (Gz F { w with heap := w.heap.setIfInBounds g (.map es' IZ) } π (aA ((id, .map kt vt l') :: s.ob))) π (aA ((id, .map kt vt l') :: s.ob)) :=
  gK.set ho hg rfl rfl (fun _ => rfl) (fun b hb' => q2 b hb') hsz
 refine hm.set ho hg rfl rfl (fun _ => rfl) (fun b hb' => q2 b hb') hsz ⟨rfl, rfl, rfl⟩ ⟨g, es', IZ, hg, q1, by simpa using h1.1, h2, h3, fun i e he => ?_⟩
 have hi : i < l'.length := by have := (Array.getElem?_eq_some_iff.1 he).1; have := h1.1; simp at this; omega
 obtain ⟨b1, b2⟩ := h1.2 i e l'[i] (by simpa using he) (by simp [hi])
 exact ⟨l'[i], by simp [hi], DT.iD E.fz b1, DT.iD E.fz b2⟩
theorem al3 (hT : dI P TI) (hm : aI c F π s a w) {T id : Nat} {kt vt : DT} {l : List (kt.den × vt.den)} (ho : aA s.ob id = some (.map kt vt l)) (hk : (TI T).qM = some (kt, vt)) {m u v : Value} (hv : VR w (Gz F w π (aA s.ob)) π (aA s.ob) (.row id) m) {x : kt.den} {z : vt.den} (hx : kt.val x w (Gz F w π (aA s.ob)) u) (hz : vt.val z w (Gz F w π (aA s.ob)) v) :
  ∃ w', (Instr.mapUpdate T m u v).run P w = .ok () w' /\ aI c F π ⟨s.sl, (id, .map kt vt (wV l x z)) :: s.ob⟩ a w' := by
 obtain ⟨k0, v0, i0, z0, hu, hkey, hi, hz0, hzz, hvp⟩ := (hT T).oM _ _ hk
 obtain ⟨g, es, ck, g1, g2, g3, g4, g5⟩ := hm.Dt ho
 simp only [VR, ho] at hv
 obtain ⟨g', e1, rfl⟩ := hv
 rw [g1] at e1; obtain rfl := aC e1
 have hf := Rj (P := P) hkey hx g3
 have TQ := hkey.check x w _ u false hx
 cases hr : tV x l with
 | none =>
  rw [hr] at hf
  obtain ⟨m1, m2⟩ := Xd hr
  refine ⟨{ w with heap := w.heap.setIfInBounds g (.map (es.push { key := u, val := v, born := ck }) (ck + 1)) }, ?_, ?_⟩
  ·simp only [Instr.mapUpdate, Sem.run_bind, run_underlying hu, Result.andThen_ok, MapKept.run_getObj_map g2, TQ, hf, xY, MapKept.run_setObj_map _ g2]
  ·rw [m2 z]
   refine hm.U4 ho g1 g2 ⟨?_, fun i e p he hp => ?_⟩ (fun i e he => ?_) (fun i j e e' he he' hb => ?_)
   ·have := g3.1; simp at this ⊢; exact this
   ·have hlen : es.toList.length = l.length := g3.1
    by_cases hi' : i < l.length
    ·rw [List.getElem?_append_left hi'] at hp
     rw [Array.toList_push, List.getElem?_append_left (by omega)] at he
     exact g3.2 i e p he hp
    ·rw [List.getElem?_append_right (by omega)] at hp
     rw [Array.toList_push, List.getElem?_append_right (by omega), hlen] at he
     have hi0 : i - l.length = 0 := by have := (List.getElem?_eq_some_iff.1 hp).1; simp at this; omega
     rw [hi0] at hp he
     simp at hp he
     subst hp; subst he
     exact ⟨hx, hz⟩
   ·rw [Array.getElem?_push] at he
    split at he
    ·obtain rfl := aC he; simp
    ·exact Nat.lt_succ_of_lt (g4 i e he)
   ·rw [Array.getElem?_push] at he he'
    split at he <;> split at he'
    ·omega
    ·obtain rfl := aC he; have := g4 j e' he'; simp at hb; omega
    ·obtain rfl := aC he'; have := g4 i e he; simp at hb; omega
    ·exact g5 i j e e' he he' hb
 | some j =>
  rw [hr] at hf
  obtain ⟨p, p1, p2, p3, p4⟩ := Xe hr
  have hlen : es.toList.length = l.length := g3.1
  have hj : j < es.size := by have := (List.getElem?_eq_some_iff.1 p1).1; simp at hlen; omega
  have he : es[j]? = some es[j] := by simp [hj]
  have hold := (g3.2 j es[j] p (by simp) p1).1
  have hsame := hkey.same x p.1 w _ u es[j].key hx hold p2
  refine ⟨{ w with heap := w.heap.setIfInBounds g (.map (es.modify j fun e => { e with key := u, val := v }) ck) }, ?_, ?_⟩
  ·simp only [Instr.mapUpdate, Sem.run_bind, run_underlying hu, Result.andThen_ok, MapKept.run_getObj_map g2, TQ, hf, xY, Nat.zero_add, he, Option.map_some, Option.getD_some, Instr.keyThatStays, hsame, if_true, Sem.run_pure, MapKept.run_setObj_map _ g2]
  ·rw [p4 z]
   have hmod : ∀ (i : Nat) (e : MapEntry), (es.modify j fun e => { e with key := u, val := v })[i]? = some e -> ∃ e0, es[i]? = some e0 /\ e.born = e0.born /\ (if i = j then e.key = u /\ e.val = v else e = e0) := fun i e he' => by
    rw [Array.getElem?_modify] at he'
    split at he'
    ·rename_i hij
     obtain ⟨e0, h1, rfl⟩ := Option.map_eq_some_iff.1 he'
     exact ⟨e0, h1, rfl, by rw [if_pos hij.symm]; exact ⟨rfl, rfl⟩⟩
    ·rename_i hij; exact ⟨e, he', rfl, by rw [if_neg (fun q => hij q.symm)]⟩
   refine hm.U4 ho g1 g2 ⟨by simpa using hlen, fun i e q he' hq => ?_⟩ (fun i e he' => ?_) (fun i i' e e' he' awM hb => ?_)
   ·obtain ⟨e0, h1, h2, h3⟩ := hmod i e (by rw [<- Array.getElem?_toList]; exact he')
    rw [List.getElem?_set] at hq
    by_cases hij : i = j
    ·subst hij
     rw [if_pos rfl] at h3
     simp only [if_true] at hq
     split at hq
     ·obtain rfl := aC hq; rw [h3.1, h3.2]; exact ⟨hx, hz⟩
     ·cases hq
    ·rw [if_neg hij] at h3
     rw [if_neg (fun q => hij q.symm)] at hq
     subst h3
     exact g3.2 i e q (by simpa using h1) hq
   ·obtain ⟨e0, h1, h2, _⟩ := hmod i e he'; rw [h2]; exact g4 i e0 h1
   ·obtain ⟨e0, h1, h2, _⟩ := hmod i e he'
    obtain ⟨e1, h3, h4, _⟩ := hmod i' e' awM
    exact g5 i i' e0 e1 h1 h3 (by rw [<- h2, <- h4]; exact hb)
theorem aeQ {o : Oper} {e : Sem Unit} {w' : World} (h : execOp a.eval o = (do e; pure .skip)) (hr : e.run P w = .ok () w') : (execOp a.eval o).run P w = .ok .skip w' := by
 rw [h, Sem.run_bind, hr]; rfl
theorem au9 {α : Type} (l : List α) (k i : Nat) (d : α) : (l.drop k).getD i d = l.getD (k + i) d := by
 simp only [List.getD, List.getElem?_drop]
theorem aEJ (hT : dI P TI) {T sT ty : Nat} {x y : TV} {vx vy : Value} {e : Eff} (h : U7 TI (aA s.ob) T x y = some e) (hb : e.b = true) (hm : aI c F π s a w)
  (hx : VR w (Gz F w π (aA s.ob)) π (aA s.ob) x vx) (hy : VR w (Gz F w π (aA s.ob)) π (aA s.ob) y vy) :
  ∃ (n : Int) (w' : World), (Builtin.copy_ #[T, sT] ty #[vx, vy]).run P w = .ok (.int .i64 n) w' /\ aI c F π ⟨s.sl, e.u ++ s.ob⟩ a w' /\ e.y = .dv (.int .i64) n := by
 unfold U7 at h; cases h
theorem aC6 (hT : dI P TI) (hm : aI c F π s a w) {T id d : Nat} {kt vt : DT} {l : List (kt.den × vt.den)} (ho : aA s.ob id = some (.map kt vt l)) (hd : aA s.ob d = none) (hkv : (TI T).qM = some (kt, vt)) {m : Value} (hv : VR w (Gz F w π (aA s.ob)) π (aA s.ob) (.row id) m) :
  ∃ (v : Value) (w' : World) (aJ : Nat -> Pl), (Instr.range T m).run P w = .ok v w' /\ aI c F aJ ⟨s.sl, (d, .iter kt vt l none) :: (id, .iI kt vt l) :: s.ob⟩ a w' /\ VR w' (Gz F w' aJ (aA ((d, .iter kt vt l none) :: (id, .iI kt vt l) :: s.ob))) aJ (aA ((d, .iter kt vt l none) :: (id, .iI kt vt l) :: s.ob)) (.row d) v := by
 obtain ⟨k0, v0, i0, z0, hu, hkey, hi, hz0, hzz, hvp⟩ := (hT T).oM _ _ hkv
 obtain ⟨g, es, ck, g1, g2, g3, g4, g5, g6⟩ := hm.obj id _ ho
 simp only [VR, ho] at hv
 obtain ⟨g', e1, rfl⟩ := hv
 rw [g1] at e1; obtain rfl := aC e1
 have hown : Own π (aA s.ob) id g := .of g1 ho rfl
 have hne : d ≠ id := fun e => by subst e; rw [hd] at ho; cases ho
 have hd1 : aA ((id, TO.iI kt vt l) :: s.ob) d = none := by rw [dQ, if_neg hne]; exact hd
 have hgl : g < w.heap.size := (hm.new id g hown).2
 let w' := w.alloc (.mapIter (some g) ck #[] ck)
 have hB : Below w.heap.size w w' := (Below.refl _ _).alloc (Nat.le_refl _) _
 have wX : ∀ i b, Own (aW π d ⟨some w.heap.size, 0, 0, iU⟩) (aA ((d, .iter kt vt l none) :: (id, .iI kt vt l) :: s.ob)) i b -> (i = d /\ b = w.heap.size) \/ (i ≠ id /\ Own π (aA s.ob) i b) := fun i b ⟨o', r2, r3⟩ => by
  rw [dQ, dQ] at r2
  by_cases q1 : i = d
  ·subst q1
   rw [if_pos rfl] at r2; obtain rfl := aC r2
   have r1 := r3.g rfl
   simp only [aW, if_true, aS] at r1
   exact .inl ⟨rfl, r1.symm⟩
  ·rw [if_neg q1] at r2
   simp only [aW, if_neg q1] at r3
   by_cases q2 : i = id
   ·rw [if_pos q2] at r2; obtain rfl := aC r2; exact (r3.not rfl).elim
   ·rw [if_neg q2] at r2; exact .inr ⟨q2, o', r2, r3⟩
 have fz : fG w (Gz F w π (aA s.ob)) w' (Gz F w' (aW π d ⟨some w.heap.size, 0, 0, iU⟩) (aA ((d, .iter kt vt l none) :: (id, .iI kt vt l) :: s.ob))) := fun b ⟨h0, h1, h2⟩ => ⟨⟨h0, Nat.lt_of_lt_of_le h1 hB.size, fun i hi => by
  rcases wX i b hi with ⟨_, rfl⟩ | ⟨_, h⟩
  ·exact absurd h1 (Nat.lt_irrefl _)
  ·exact h2 i h⟩, hB.block b h1⟩
 have I9 : Gz F w' (aW π d ⟨some w.heap.size, 0, 0, iU⟩) (aA ((d, .iter kt vt l none) :: (id, .iI kt vt l) :: s.ob)) g := ⟨hm.hF g (hm.new id g hown).1, Nat.lt_of_lt_of_le hgl hB.size, fun i hi => by
  rcases wX i g hi with ⟨_, rfl⟩ | ⟨q, h⟩
  ·exact absurd hgl (Nat.lt_irrefl _)
  ·exact q (hm.inj i id g h hown)⟩
 have hnd : (es.toList.map (·.born)).Nodup := by
  rw [List.nodup_iff_pairwise_ne, List.pairwise_iff_getElem]
  intro i j h1 h2 hij he
  simp only [List.length_map, Array.length_toList] at h1 h2
  simp only [List.getElem_map, Array.getElem_toList] at he
  have := g5 i j es[i] es[j] (Array.getElem?_eq_getElem h1) (Array.getElem?_eq_getElem h2) he
  omega
 have hfil : (es.toList.filter fun e => !(#[] : Array Nat).contains e.born) = es.toList := by
  rw [List.filter_eq_self]; intro e _; simp
 have hR := (hm.au7 ho).GK (d := d) (p := ⟨some w.heap.size, 0, 0, iU⟩) (o := .iter kt vt l none) hB hd1 (fun g' hg' => by cases hg'; exact ⟨Nat.le_refl _, by simp [w']⟩)
  ⟨w.heap.size, by simp [aW], l, .refl _, g, es, ck, #[], es.toList, heap_alloc_new w _, I9, (hB.block g hgl).trans g2, fun e he => by
   obtain ⟨i, hi, rfl⟩ := List.getElem_of_mem he
   exact g4 i _ (by simp), hnd, hfil.symm, by simpa using g3, fun i e he => by
   obtain ⟨x, a1, a2, a3⟩ := g6 i e (by simpa using he)
   exact ⟨x, a1, DT.iD fz a2, DT.iD fz a3⟩, fun p hp => by cases hp⟩
 refine ⟨.pointer (some ⟨w.heap.size, 0, none⟩), w', _, ?_, hR, ?_⟩
 ·simp [Instr.range, run_underlying hu, MapKept.run_getObj_map g2, newObj, w']
  rfl
 ·simp only [VR, dQ, if_true]
  exact ⟨w.heap.size, by simp [aW], rfl⟩
theorem aC7 (hT : dI P TI) (hm : aI c F π s a w) {T id d : Nat} {kt vt : DT} {l : List (kt.den × vt.den)} (ho : aA s.ob id = some (.iI kt vt l)) (hd : aA s.ob d = none) (hkv : (TI T).qM = some (kt, vt)) {m : Value} (hv : VR w (Gz F w π (aA s.ob)) π (aA s.ob) (.row id) m) :
  ∃ (v : Value) (w' : World) (aJ : Nat -> Pl), (Instr.range T m).run P w = .ok v w' /\ aI c F aJ ⟨s.sl, (d, .iter kt vt l none) :: s.ob⟩ a w' /\ VR w' (Gz F w' aJ (aA ((d, .iter kt vt l none) :: s.ob))) aJ (aA ((d, .iter kt vt l none) :: s.ob)) (.row d) v := by
 obtain ⟨k0, v0, i0, z0, hu, hkey, hi, hz0, hzz, hvp⟩ := (hT T).oM _ _ hkv
 simp only [VR, ho] at hv
 obtain ⟨lx, h0, g, es, ck, rfl, hgz, g2, g3, g4, g5, g6⟩ := hv
 have hgl : g < w.heap.size := hgz.2.1
 let w' := w.alloc (.mapIter (some g) ck #[] ck)
 have hB : Below w.heap.size w w' := (Below.refl _ _).alloc (Nat.le_refl _) _
 have wX : ∀ i b, Own (aW π d ⟨some w.heap.size, 0, 0, iU⟩) (aA ((d, .iter kt vt l none) :: s.ob)) i b -> (i = d /\ b = w.heap.size) \/ Own π (aA s.ob) i b := fun i b ⟨o', r2, r3⟩ => by
  rw [dQ] at r2
  by_cases q1 : i = d
  ·subst q1
   rw [if_pos rfl] at r2; obtain rfl := aC r2
   have r1 := r3.g rfl
   simp only [aW, if_true, aS] at r1
   exact .inl ⟨rfl, r1.symm⟩
  ·rw [if_neg q1] at r2
   simp only [aW, if_neg q1] at r3
   exact .inr ⟨o', r2, r3⟩
 have fz : fG w (Gz F w π (aA s.ob)) w' (Gz F w' (aW π d ⟨some w.heap.size, 0, 0, iU⟩) (aA ((d, .iter kt vt l none) :: s.ob))) := fun b ⟨h0, h1, h2⟩ => ⟨⟨h0, Nat.lt_of_lt_of_le h1 hB.size, fun i hi => by
  rcases wX i b hi with ⟨_, rfl⟩ | h
  ·exact absurd h1 (Nat.lt_irrefl _)
  ·exact h2 i h⟩, hB.block b h1⟩
 have hnd : (es.toList.map (·.born)).Nodup := by
  rw [List.nodup_iff_pairwise_ne, List.pairwise_iff_getElem]
  intro i j h1 h2 hij he
  simp only [List.length_map, Array.length_toList] at h1 h2
  simp only [List.getElem_map, Array.getElem_toList] at he
  have := g5 i j es[i] es[j] (Array.getElem?_eq_getElem h1) (Array.getElem?_eq_getElem h2) he
  omega
 have hfil : (es.toList.filter fun e => !(#[] : Array Nat).contains e.born) = es.toList := by
  rw [List.filter_eq_self]; intro e _; simp
 have hR := hm.GK (d := d) (p := ⟨some w.heap.size, 0, 0, iU⟩) (o := .iter kt vt l none) hB hd (fun g' hg' => by cases hg'; exact ⟨Nat.le_refl _, by simp [w']⟩)
  ⟨w.heap.size, by simp [aW], lx, h0, g, es, ck, #[], es.toList, heap_alloc_new w _, (fz g hgz).1, (hB.block g hgl).trans g2, fun e he => by
   obtain ⟨i, hi, rfl⟩ := List.getElem_of_mem he
   exact g4 i _ (by simp), hnd, hfil.symm, by simpa using g3, fun i e he => by
   obtain ⟨x, a1, a2, a3⟩ := g6 i e (by simpa using he)
   exact ⟨x, a1, DT.iD fz a2, DT.iD fz a3⟩, fun p hp => by cases hp⟩
 refine ⟨.pointer (some ⟨w.heap.size, 0, none⟩), w', _, ?_, hR, ?_⟩
 ·simp [Instr.range, run_underlying hu, MapKept.run_getObj_map g2, newObj, w']
  rfl
 ·simp only [VR, dQ, if_true]
  exact ⟨w.heap.size, by simp [aW], rfl⟩
theorem aGF (hT : dI P TI) {o : Oper} {e : Eff} (h : kZ TI s.ev (aA s.ob) o.dst o.op = some e) (hb : e.b = true) (hm : aI c F π s a w) : jR P c F s π a w o e := by
 obtain ⟨dst, op, ty, pos, after, gd⟩ := o
 simp only at h
 cases op with
 | makeMap T r =>
  simp only [kZ] at h
  split at h
  ·rename_i d kt vt hkv
   split at h
   ·cases h
   ·rename_i hd
    obtain ⟨k0, v0, i0, z0, hu, hkey, hi, hz0, hzz, hvp⟩ := (hT T).oM _ _ hkv
    have hnew : aI c F (aW π d ⟨some w.heap.size, 0, 0, iU⟩) ⟨s.sl, (d, .map kt vt []) :: s.ob⟩ a (w.alloc (.map #[] 0)) := by
     refine hm.GK ((Below.refl _ _).alloc (Nat.le_refl _) _) hd (fun g hg => by cases hg; exact ⟨Nat.le_refl _, by simp⟩) ⟨w.heap.size, #[], 0, by simp [aW], heap_alloc_new w _, rfl, fun i e he => by simp at he, fun i j e e' he => by simp at he, fun i e he => by simp at he⟩
    have hres : VR (w.alloc (.map #[] 0)) (Gz F (w.alloc (.map #[] 0)) (aW π d ⟨some w.heap.size, 0, 0, iU⟩) (aA ((d, .map kt vt []) :: s.ob))) (aW π d ⟨some w.heap.size, 0, 0, iU⟩) (aA ((d, .map kt vt []) :: s.ob)) (.row d) (.map (some w.heap.size)) := by
     simp only [VR, aA, if_true]
     exact ⟨_, by simp [aW], rfl⟩
    cases r with
    | none =>
     obtain rfl := aC h
     exact ⟨_, _, _, .inl (eP (e := Instr.makeMap T none) (by simp [execOp]) (by simp [Instr.makeMap])), hnew, hres⟩
    | some x =>
     simp only at h
     split at h
     ·rename_i k z hx
      obtain rfl := aC h
      have gQ := hm.ev x
      rw [hx] at gQ
      have D9 : a.eval x = .int k z := (DT.val_one (t := .int k) rfl).1 gQ
      exact ⟨_, _, _, .inl (eP (e := Instr.makeMap T (some (a.eval x))) (by simp [execOp]) (by rw [D9]; simp [Instr.makeMap, run_underlying hu, asInt, asIntOf])), hnew, hres⟩
     ·cases h
  ·cases h
 | lookup T m ix ok =>
  simp only [kZ] at h
  split at h
  ·rename_i id hmv
   split at h
   ·rename_i kt vt l ho
    split at h
    ·rename_i hkv
     split at h
     ·rename_i x b hx
      obtain ⟨k0, v0, i0, z0, hu, hkey, hi, hz0, hzz, hvp⟩ := (hT T).oM _ _ hkv
      have hv := hm.ev m
      rw [hmv] at hv
      obtain ⟨g, es, ck, hv, g2, lx, g3, hone⟩ := hm.auM ho hv
      have hb2 : (b && Jg (aA s.ob id) l x) = true := by
       split at h <;> (obtain rfl := aC h; exact hb)
      rw [bC] at hb2
      obtain ⟨hbb, hb3⟩ := hb2
      have hmg := hone x hb3
      have gQ := TV.qL hx hbb hkey.plain (hm.ev ix)
      have hf := Rj (P := P) hkey gQ g3
      rw [<- hmg] at h
      have hres : ∃ (v : Value) (bo : Bool), (Instr.lookup T (a.eval m) (a.eval ix) ok).run P w = .ok (if ok then .tuple #[v, .bool bo] else v) w /\ vt.val ((oN lx x).getD vt.dflt) w (Gz F w π (aA s.ob)) v /\ bo = (oN lx x).isSome /\ ((oN lx x).isNone = true -> v = z0) := by
       cases hr : tV x lx with
       | none =>
        rw [hr] at hf
        obtain ⟨m1, _⟩ := Xd hr
        refine ⟨z0, false, ?_, by rw [m1]; exact hzz w _, by rw [m1]; rfl, fun _ => rfl⟩
        rw [hv]
        simp only [Instr.lookup, Sem.run_bind, run_underlying hu, Result.andThen_ok, MapKept.run_getObj_map g2, Sem.run_pure, hkey.check x w _ _ _ gQ, hf, xY, zeroValue, typeInfo, run_program, hi, hz0]
       | some j =>
        rw [hr] at hf
        obtain ⟨p, p1, p2, p3, p4⟩ := Xe hr
        have hlen : es.toList.length = lx.length := g3.1
        have hj : j < es.size := by have := (List.getElem?_eq_some_iff.1 p1).1; simp at hlen; omega
        have he : es.toList[j]? = some es[j] := by simp [hj]
        refine ⟨es[j].val, true, ?_, by rw [p3]; exact (g3.2 j es[j] p he p1).2, by rw [p3]; rfl, fun q => by rw [p3] at q; cases q⟩
        rw [hv]
        simp only [Instr.lookup, Sem.run_bind, run_underlying hu, Result.andThen_ok, MapKept.run_getObj_map g2, Sem.run_pure, hkey.check x w _ _ _ gQ, hf, xY, he, Option.map_some, Option.getD_some]
      obtain ⟨v, bo, r1, r2, r3, r4⟩ := hres
      have hex := eP (P := P) (a := a) (o := ⟨dst, .lookup T m ix ok, ty, pos, after, gd⟩) (e := Instr.lookup T (a.eval m) (a.eval ix) ok) (by simp [execOp]) r1
      cases ok with
      | true =>
       obtain rfl := aC h
       refine ⟨_, w, π, .inl hex, hm, ?_⟩
       refine ⟨#[v, .bool bo], rfl, rfl, fun j hj => ?_⟩
       match j, hj with
       | 0, _ => exact ⟨v, rfl, r2⟩
       | 1, _ => exact ⟨.bool bo, rfl, (DT.val_one (t := .bool) rfl).2 (by rw [r3]; rfl)⟩
      | false =>
       obtain rfl := aC h
       refine ⟨_, w, π, .inl hex, hm, ?_⟩
       show VR w _ π _ (if _ then _ else _) v
       split
       ·rename_i hc
        rw [bC] at hc
        exact (r4 hc.2).trans (aAF hT hc.1 hu hi hz0)
       ·exact r2
     ·cases h
    ·cases h
   ·cases h
  ·cases h
 | mapUpdate T m k y =>
  simp only [kZ] at h
  split at h
  ·rename_i id hmv
   split at h
   ·rename_i kt vt l ho
    split at h
    ·rename_i hkv
     split at h
     ·rename_i x b z b' hx hz
      obtain rfl := aC h
      simp only [bC] at hb
      obtain ⟨k0, v0, i0, z0, hu, hkey, hi, hz0, hzz, hvp⟩ := (hT T).oM _ _ hkv
      have hv := hm.ev m
      rw [hmv] at hv
      obtain ⟨w', r1, r2⟩ := al3 hT hm ho hkv hv (TV.qL hx hb.1 hkey.plain (hm.ev k)) (TV.qL hz hb.2 hvp (hm.ev y))
      exact ⟨undef, w', π, .inr ⟨aeQ (e := Instr.mapUpdate T (a.eval m) (a.eval k) (a.eval y)) (by simp [execOp]) r1, rfl⟩, r2, trivial⟩
     ·cases h
    ·cases h
   ·cases h
  ·cases h
 | insert T m k y =>
  simp only [kZ] at h
  split at h
  ·rename_i id hmv
   split at h
   ·rename_i kt vt l ho
    split at h
    ·rename_i hkv
     split at h
     ·rename_i x b z b' hx hz
      obtain rfl := aC h
      simp only [bC] at hb
      obtain ⟨k0, v0, i0, z0, hu, hkey, hi, hz0, hzz, hvp⟩ := (hT T).oM _ _ hkv
      have hv := hm.ev m
      rw [hmv] at hv
      obtain ⟨w', r1, r2⟩ := al3 hT hm ho hkv hv (TV.qL hx hb.1 hkey.plain (hm.ev k)) (TV.qL hz hb.2 hvp (hm.ev y))
      exact ⟨undef, w', π, .inr ⟨aeQ (e := Instr.mapUpdate T (a.eval m) (a.eval k) (a.eval y)) (by simp [execOp]) r1, rfl⟩, r2, trivial⟩
     ·cases h
    ·cases h
   ·cases h
  ·cases h
 | binOp op T x y yt =>
  simp only [kZ] at h
  split at h
  ·rename_i k p k' q hx hy
   have gQ := hm.ev x
   have gB := hm.ev y
   rw [hx] at gQ
   rw [hy] at gB
   have D9 : a.eval x = .int k p := (DT.val_one (t := .int k) rfl).1 gQ
   have EC : a.eval y = .int k' q := (DT.val_one (t := .int k') rfl).1 gB
   have fin : ∀ {op : BinOp} {n : Int}, (binOp op T (.int k p) (.int k' q)).run P w = .ok (.int k n) w -> (execOp a.eval ⟨dst, .binOp op T x y yt, ty, pos, after, gd⟩).run P w = .ok (.value (.int k n)) w := fun {op n} hr => by
    refine eP (e := do eqGuard op T x y (a.eval x) (a.eval y); binOp op T (a.eval x) (a.eval y)) (by simp [execOp]) ?_
    rw [D9, EC, Sem.run_bind, OC (fun cs ds e => by cases e) (by simp)]
    exact hr
   split at h
   ·obtain rfl := aC h
    have hq : ¬ q < 0 := by simpa using hb
    refine ⟨_, w, π, .inl (fin (n := k.wrap ((p : Int) * 2 ^ min (Int.toNat q) k.bits)) ?_), hm, (DT.val_one (t := .int k) rfl).2 rfl⟩
    show (binOp .shl T (.int k p) (.int k' q)).run P w = _
    simp [binOp, Op.shift, hq]
   ·obtain rfl := aC h
    have hq : ¬ q < 0 := by simpa using hb
    refine ⟨_, w, π, .inl (fin (n := Int.fdiv p (2 ^ min (Int.toNat q) k.bits)) ?_), hm, (DT.val_one (t := .int k) rfl).2 rfl⟩
    show (binOp .shr T (.int k p) (.int k' q)).run P w = _
    simp [binOp, Op.shift, hq]
   ·split at h
    ·rename_i hkk
     subst hkk
     split at h
     ·obtain rfl := aC h
      have hq : q ≠ 0 := by simpa using hb
      refine ⟨_, w, π, .inl (fin (n := k.wrap (Int.tdiv p q)) ?_), hm, (DT.val_one (t := .int k) rfl).2 rfl⟩
      show (binOp .quo T (.int k p) (.int k q)).run P w = _
      simp [binOp, Op.intDiv, hq]
     ·obtain rfl := aC h
      have hq : q ≠ 0 := by simpa using hb
      refine ⟨_, w, π, .inl (fin (n := Int.tmod p q) ?_), hm, (DT.val_one (t := .int k) rfl).2 rfl⟩
      show (binOp .rem T (.int k p) (.int k q)).run P w = _
      simp [binOp, Op.intDiv, hq]
     ·cases h
    ·cases h
  ·cases h
 | call cl =>
  simp only [kZ] at h
  obtain ⟨callee, args, ats⟩ := cl
  simp only at h
  have fin : ∀ {x y : Operand} {k : IntKind} {p q n : Int} {b : Builtin} {f : Sem Value}, args.toList = [x, y] -> callee = .builtin b -> (∀ cs, builtin b ats ty cs #[a.eval x, a.eval y] = (do pure (.value (<- f)))) -> f.run P w = .ok (.int k n) w -> (execOp a.eval ⟨dst, .call ⟨callee, args, ats⟩, ty, pos, after, gd⟩).run P w = .ok (.value (.int k n)) w := fun {x y k p q n b f} ha hc hbt hr => by
   have ha : args = #[x, y] := by apply Array.ext'; simpa using ha
   subst ha; subst hc
   exact eP (e := f) (by rw [BigFrame.execOp_builtin]; simpa using hbt _) hr
  split at h
  ·rename_i x y hargs
   split at h
   ·rename_i k p k' q hx hy
    have gQ := hm.ev x
    have gB := hm.ev y
    rw [hx] at gQ
    rw [hy] at gB
    have D9 : a.eval x = .int k p := (DT.val_one (t := .int k) rfl).1 gQ
    have EC : a.eval y = .int k' q := (DT.val_one (t := .int k') rfl).1 gB
    split at h
    ·rename_i hkk
     subst hkk
     obtain rfl := aC h
     refine ⟨_, w, π, .inl (fin (p := p) (q := q) (k := k) (n := gI p q) hargs rfl (fun _ => rfl) ?_), hm, (DT.val_one (t := .int k) rfl).2 rfl⟩
     rw [D9, EC]
     simp [Builtin.min_, Builtin.min2, gI]
    ·cases h
   ·cases h
  ·rename_i x y hargs
   split at h
   ·rename_i k p k' q hx hy
    have gQ := hm.ev x
    have gB := hm.ev y
    rw [hx] at gQ
    rw [hy] at gB
    have D9 : a.eval x = .int k p := (DT.val_one (t := .int k) rfl).1 gQ
    have EC : a.eval y = .int k' q := (DT.val_one (t := .int k') rfl).1 gB
    split at h
    ·rename_i hkk
     subst hkk
     obtain rfl := aC h
     refine ⟨_, w, π, .inl (fin (p := p) (q := q) (k := k) (n := imax p q) hargs rfl (fun _ => rfl) ?_), hm, (DT.val_one (t := .int k) rfl).2 rfl⟩
     rw [D9, EC]
     simp [Builtin.max_, Builtin.max2, imax]
    ·cases h
   ·cases h
  ·rename_i x y hargs
   split at h
   ·rename_i T sT hat
    have ha : args = #[x, y] := by apply Array.ext'; simpa using hargs
    have hat : ats = #[T, sT] := by apply Array.ext'; simpa using hat
    subst ha; subst hat
    obtain ⟨n, w', r1, r2, r3⟩ := aEJ (sT := sT) (ty := ty) hT h hb hm (hm.ev x) (hm.ev y)
    refine ⟨_, w', π, .inl (eP (e := Builtin.copy_ #[T, sT] ty #[a.eval x, a.eval y]) (by rw [BigFrame.execOp_builtin, BigFrame.builtin_copy]; simp) r1), r2, ?_⟩
    rw [r3]
    exact (DT.val_one (t := .int .i64) rfl).2 rfl
   ·cases h
  ·cases h
 | range T m =>
  simp only [kZ] at h
  split at h
  ·rename_i d id hmv
   split at h
   ·rename_i kt vt l ho hd
    split at h
    ·rename_i hkv
     obtain rfl := aC h
     have hv := hm.ev m
     rw [hmv] at hv
     obtain ⟨v, w', aJ, h1, h2, h3⟩ := aC6 hT hm ho hd hkv hv
     exact ⟨v, w', aJ, .inl (eP (e := Instr.range T (a.eval m)) rfl h1), h2, h3⟩
    ·cases h
   ·rename_i kt vt l ho hd
    split at h
    ·rename_i hkv
     obtain rfl := aC h
     have hv := hm.ev m
     rw [hmv] at hv
     obtain ⟨v, w', aJ, h1, h2, h3⟩ := aC7 hT hm ho hd hkv hv
     exact ⟨v, w', aJ, .inl (eP (e := Instr.range T (a.eval m)) rfl h1), h2, h3⟩
    ·cases h
   ·cases h
  ·cases h
 | entry x =>
  simp only [kZ] at h
  split at h
  ·rename_i id hx
   split at h
   ·rename_i kt vt l p ho
    obtain rfl := aC h
    have hv := hm.ev x
    rw [hx] at hv
    simp only [VR, ho] at hv
    obtain ⟨r0, e1, hv⟩ := hv
    obtain ⟨r, k1, lx, h0, g, es, ck, seen, ls, h1, h2, h3, h4, h5, h6, h7, h8, h9⟩ := hm.obj id _ ho
    rw [k1] at e1; obtain rfl := aC e1
    obtain ⟨e, s0, a1, rfl, a3, a4⟩ := h9 p rfl
    have E : gK w (Gz F w π (aA s.ob)) π (aA s.ob) w (Gz F w π (aA ((id, .iter kt vt l none) :: s.ob))) π (aA ((id, .iter kt vt l none) :: s.ob)) := gK.set ho k1 rfl rfl (fun _ => rfl) (fun _ _ => rfl) rfl
    have hG := E.fz g h2
    have hR : aI c F π ⟨s.sl, (id, .iter kt vt l none) :: s.ob⟩ a w := hm.set ho k1 rfl rfl (fun _ => rfl) (fun _ _ => rfl) rfl ⟨rfl, rfl, rfl⟩ ⟨r, k1, lx, h0, g, es, ck, s0.push e.born, ls, h1, hG.1, h3, h4, h5, h6, h7, fun i e he => by
     obtain ⟨y, y1, y2, y3⟩ := h8 i e he
     exact ⟨y, y1, DT.iD E.fz y2, DT.iD E.fz y3⟩, fun p hp => by cases hp⟩
    refine ⟨.tuple #[e.key, e.val], w, π, .inl (eP (e := Instr.entry (a.eval x)) rfl (by rw [hv]; exact run_entry_at w r g ck s0 es ck e h1 h3 a1 h5)), hR, ⟨_, rfl, rfl, fun j hj => ?_⟩⟩
    match j, hj with
    | 0, _ => exact ⟨e.key, rfl, DT.iD E.fz a3⟩
    | 1, _ => exact ⟨e.val, rfl, DT.iD E.fz a4⟩
   ·cases h
  ·cases h
 | _ => simp [kZ] at h
end
end
section
def CX (L : bF) : TV -> Bool
 | .dv t _ => t.plain
 | x => x.one' L
def zS (ev : Operand -> TV) (L : bF) (d : TD) : List (Nat × Operand) -> List TV -> Option (List TV)
 | [], l => some l
 | (i, x) :: r, l => match l[i]? with
  | some y => if CX L (ev x) && decide ((ev x).size = y.size) && placeOf d i == some (aP l i, y.size) then zS ev L d r (l.set i (ev x)) else none
  | none => none
def FK {β : Type} (l : List β) (a b : Nat) (d : β) : List β := l.take a ++ List.replicate (b - a) d ++ l.drop b
def PD (d : TD) (L : bF) (z : Int) (x : TV) : Option (TV × Bool) :=
 match x with
 | .view id i p k n a b => match L id with
  | some o => match o.part i p with
   | some ⟨.arr m u, _⟩ => if d.kd == 2 && d.elem == u.size && k == u.size && m == n && o.live then some (.ptr id i (p ++ [a + z.toNat]), decide (0 <= z /\ z < ((b - a : Nat) : Int))) else none
   | _ => none
  | none => none
 | _ => none
def oQ (n : Nat) (f : Nat -> TV) : List TV := (List.range n).map f
def Pj (fs : List TV) (i n : Nat) : Option (List TV) :=
 match (List.range (fs.length + 1)).find? fun j => aP fs j == i with
 | some j => match (List.range (fs.length + 1)).reverse.find? fun m => decide (j + m <= fs.length) && aP (fs.drop j) m == n with
  | some m => some ((fs.drop j).take m)
  | none => none
 | none => none
def KG (d : TD) (L : bF) : TV -> Option TV
 | .ptr id i [] => match L id with
  | some (.aV fs) => match Pj fs i d.size with
   | some l => if d.kd == 4 then some (.st l.length fun j => l.getD j .any) else none
   | none => none
  | _ => none
 | _ => none
def Kt : List TV -> Option (List (List TV))
 | [] => some []
 | .st n f :: r => (Kt r).map fun l => oQ n f :: l
 | _ :: _ => none
def J7 (L : bF) : TV -> Option (List TV)
 | .st n f => some (oQ n f)
 | x => if CX L x then some [x] else none
def zT (ev : Operand -> TV) (L : bF) (d : TD) : List (Nat × Operand) -> List TV -> Option (List TV)
 | [], l => some l
 | (i, x) :: r, l => match placeOf d i with
  | some (o, z) => match (List.range (l.length + 1)).find? fun j => aP l j == o with
   | some j => match J7 L (ev x) with
    | some m => if decide (aP m m.length = z) && decide (((l.drop j).take m.length).map TV.size = m.map TV.size) then zT ev L d r (l.take j ++ m ++ l.drop (j + m.length)) else none
    | none => none
   | none => none
  | none => none
def EW (ev : Operand -> TV) (L : bF) (d : TD) (r : List (Nat × Operand)) (l : List TV) : Option (List TV) :=
 match zS ev L d r l with
 | some x => some x
 | none => zT ev L d r l
def tst (TI : Nat -> TD) (TY : Nat -> DT) (rc : Nat -> Option (List (Option DT))) (ev : Operand -> TV) (L : bF) (dst : Option Nat) : Op -> Option Eff
 | .build T parts => match dst.bind rc with
  | some fs => match CZ fs (TI T).zero.cells.toList with
   | some l => match EW ev L (TI T) parts.toList l with
    | some l' => if (TI T).kd == 4 && decide (aP l l.length = (TI T).size) then some ⟨.st l'.length fun i => l'.getD i .any, [], true⟩ else none
    | none => none
   | none => none
  | none => none
 | .store T p y => match dst, ev p, ev y with
  | none, .ptr id i [], .st n f => match L id with
   | some (.aV fs) => if i == 0 && (TI T).kd == 4 && vN fs (oQ n f) && decide (aP (oQ n f) n = (TI T).size) then some ⟨.any, [(id, .aV (oQ n f))], true⟩ else none
   | _ => none
  | _, _, _ => none
 | .box T x => match dst, ev x with
  | some d, .st n f => match L d with
   | none => if (TI T).kd == 4 && (mW (oQ n f)).isNone then some ⟨.ptr d 0 [], [(d, .aV (oQ n f))], true⟩ else none
   | some _ => none
  | _, _ => none
 | .buildSlice T n parts => match dst with
  | some d => if (rc d).isSome then (match L d, Kt (parts.toList.map fun p => ev p.2) with
   | none, some ls => if (TI T).kd == 2 && decide (parts.toList.map (·.1) = List.range n) && ls.all (fun l => decide (aP l l.length = (TI T).elem)) && decide (n * (TI T).elem <= 2 ^ 24) && (mW ls.flatten).isNone then
     some ⟨.view d 0 [] (TI T).elem n 0 n, [(d, .aV ls.flatten)], true⟩ else none
   | _, _ => none) else none
  | none => none
 | .load T p => match dst.bind rc with
  | some _ => match KG (TI T) L (ev p) with
   | some y => some ⟨y, [], true⟩
   | none => none
  | none => none
 | .slice T x lo hi mx => match mx, ev x, kG ev lo, kG ev hi with
  | none, .nl, some a, some b => if (TI T).kd == 2 then some ⟨.nl, [], rU 0 a b⟩ else none
  | _, _, _, _ => none
 | .call c => match c.callee, c.args.toList, c.argTypes.toList with
  | .builtin .cap, [x], [T] => match ev x with
   | .nl => if (TI T).kd == 2 then some ⟨.dv (.int .i64) 0, [], true⟩ else none
   | _ => none
  | .builtin .append, [x, y], [T, T'] => match dst, ev x, ev y, TY T with
   | some d, .nl, .dv (.int k) n, .sl t => match L d with
    | none => if (TI T').ik == some k && (TI T).kd == 2 && isZero (TI T).ez t && t.plain && (TI T).elem == t.size then
      some ⟨.row d, [(d, .row t (List.replicate n.toNat t.dflt))], decide (0 < n) && wU n n (TI T).eb⟩ else none
    | some _ => none
   | _, _, _, _ => none
  | .builtin .clear, [x], [T] => match ev x with
   | .iP id a b => match L id with
    | some (.row t l) => if (TI T).kd == 2 && isZero (TI T).ez t && t.plain && (TI T).elem == t.size then some ⟨.any, [(id, .row t (FK l a b t.dflt))], decide (a < b)⟩ else none
    | _ => none
   | _ => none
  | .builtin .len, [x], [T] => match ev x with
   | .view id i p k n a b => match L id with
    | some o => if (TI T).kd == 2 && o.live then some ⟨.dv (.int .i64) ((b - a : Nat) : Int), [], true⟩ else none
    | none => none
   | _ => none
  | _, _, _ => none
 | .indexAddr T x y => match ev y with
  | .dv (.int _) z => match PD (TI T) L z (ev x) with
   | some (r, b) => some ⟨r, [], b⟩
   | none => none
  | _ => none
 | _ => none
section
variable {P : Program} {TI : Nat -> TD} {TY : Nat -> DT} {c : Cx} {F : Nat -> Prop} {s : TS} {π : Nat -> Pl} {a : Act} {w : World}
theorem aiZ {x : TV} {G : Nat -> Prop} {O : bF} (h : CX O x = true) {v : Value} (hv : VR w G π O x v) : v.cells.size = x.size /\ ∀ cc, cc < x.size -> ∃ u, v.cells[cc]? = some u /\ u.oneCell' = true /\ x.mG w G π O cc u := by
 have one : x.one' O = true -> v.cells.size = x.size /\ ∀ cc, cc < x.size -> ∃ u, v.cells[cc]? = some u /\ u.oneCell' = true /\ x.mG w G π O cc u := fun h1 => by
  have hone := TV.Yi h1 hv
  obtain ⟨f1, f2⟩ := TV.Rf h1 hv
  rw [cells_one hone]
  refine ⟨by simp [f1], fun cc hcc => ?_⟩
  obtain rfl : cc = 0 := by omega
  exact ⟨v, rfl, hone, f2⟩
 cases x with
 | dv t y => exact DT.sK (t := t) h hv
 | _ => exact one h
def oZ (w : World) (G : Nat -> Prop) (π : Nat -> Pl) (O : bF) (l : List TV) (cs : Array Value) : Prop :=
 ∀ (j : Nat) (x : TV), l[j]? = some x -> ∀ cc, cc < x.size -> ∃ u, cs[aP l j + cc]? = some u /\ u.oneCell' = true /\ x.mG w G π O cc u
theorem alZ {d : TD} {G : Nat -> Prop} {O : bF} {ev : Operand -> TV} (hv : ∀ x, VR w G π O (ev x) (a.eval x)) : ∀ {r : List (Nat × Operand)} {l l' : List TV} {cells : Array Value}, zS ev O d r l = some l' -> aP l l.length <= cells.size -> oZ w G π O l cells ->
  ∃ cells', Instr.fill (placeOf d) cells (r.map fun p => (p.1, a.eval p.2)) = some cells' /\ cells'.size = cells.size /\ oZ w G π O l' cells' /\ l'.length = l.length /\ ∀ k, aP l' k = aP l k
 | [], l, l', cells, h, hs, hz => by
  simp only [zS, aS] at h
  subst h
  exact ⟨cells, rfl, rfl, hz, rfl, fun _ => rfl⟩
 | (i, o) :: r, l, l', cells, h, hs, hz => by
  simp only [zS] at h
  split at h
  ·rename_i y hy
   split at h
   ·rename_i hk
    simp only [bC, fH, beq_iff_eq] at hk
    obtain ⟨⟨k1, k2⟩, k3⟩ := hk
    obtain ⟨v1, v2⟩ := aiZ k1 (hv o)
    have hil := (List.getElem?_eq_some_iff.1 hy).1
    have hos := fun k => Yh l i k (ev o) (fun z hz => by rw [hy] at hz; obtain rfl := aC hz; exact k2)
    have hfit : aP l i + y.size <= cells.size := by
     rcases JZ hy hil with h' | h' <;> omega
    have hf := TC (aP l i) (a.eval o).cells.toList 0 cells (by simp [v1]; omega)
    have e : (a.eval o).cells.zipIdx.foldl (fun cs (c, j) => cs.setIfInBounds (aP l i + j) c) cells = ((a.eval o).cells.toList.zipIdx 0).foldl (fun cs p => cs.setIfInBounds (aP l i + p.2) p.1) cells := by
     rw [<- Array.foldl_toList, Array.toList_zipIdx]
    obtain ⟨cells', g1, g2, g3, g4, g5⟩ := alZ (cells := ((a.eval o).cells.toList.zipIdx 0).foldl (fun cs p => cs.setIfInBounds (aP l i + p.2) p.1) cells) hv h (by rw [hf.1, List.length_set, hos]; exact hs) (fun j x hx cc hcc => by
     rw [hos, hf.2]
     by_cases hji : j = i
     ·subst hji
      simp only [List.getElem?_set_self hil, aS] at hx
      subst hx
      obtain ⟨u, a1, a2, a3⟩ := v2 cc hcc
      rw [if_pos (by simp [v1]; omega)]
      exact ⟨u, by rw [Array.getElem?_toList, <- a1]; congr 1; omega, a2, a3⟩
     ·rw [List.getElem?_set_ne (fun e => hji e.symm)] at hx
      have hap := aiG hy hx (fun e => hji e.symm)
      rw [if_neg (by simp [v1]; omega)]
      exact hz j x hx cc hcc)
    refine ⟨cells', ?_, g2.trans hf.1, g3, by rw [g4, List.length_set], fun k => (g5 k).trans (hos k)⟩
    simp only [List.map_cons, Instr.fill, k3]
    rw [if_neg (by simp [v1, k2]; omega), e]
    exact g1
   ·cases h
  ·cases h
theorem alF (l : List TV) : oQ l.length (fun i => l.getD i .any) = l := by
 unfold oQ
 apply List.ext_getElem
 ·simp
 ·intro i h1 h2
  simp [h2]
theorem aDX {n : Nat} {f : Nat -> TV} {j : Nat} {x : TV} (h : (oQ n f)[j]? = some x) : j < n /\ x = f j := by
 have hj : j < n := by have := (List.getElem?_eq_some_iff.1 h).1; simpa [oQ] using this
 refine ⟨hj, ?_⟩
 unfold oQ at h
 rw [List.getElem?_map, List.getElem?_range hj] at h
 exact (aC h).symm
theorem oZ.st {G : Nat -> Prop} {O : bF} {l : List TV} {cs : Array Value} (h : oZ w G π O l cs) (hs : cs.size = aP l l.length) : VR w G π O (.st l.length fun i => l.getD i .any) (.agg cs) := by
 refine ⟨cs, rfl, ?_, fun j hj c hc => ?_⟩
 ·have := alF l; unfold oQ at this; rw [this]; exact hs
 ·have e := alF l
  unfold oQ at e
  rw [e]
  have hx : l[j]? = some (l.getD j .any) := by simp [List.getD, hj]
  obtain ⟨u, a1, a2, a3⟩ := h j _ hx c hc
  obtain ⟨b1, b2⟩ := TV.aAK a3
  exact ⟨u, a1, a2, b1, b2⟩
theorem oZ.Jb {G : Nat -> Prop} {O : bF} {n : Nat} {f : Nat -> TV} {v : Value} (h : VR w G π O (.st n f) v) : ∃ cs : Array Value, v = .agg cs /\ cs.size = aP (oQ n f) n /\ oZ w G π O (oQ n f) cs := by
 obtain ⟨cs, h1, h2, h3⟩ := h
 refine ⟨cs, h1, h2, fun j x hx cc hcc => ?_⟩
 obtain ⟨hj, rfl⟩ := aDX hx
 obtain ⟨u, a1, a2, a3, a4⟩ := h3 j hj cc hcc
 exact ⟨u, a1, a2, TV.auS a3 a4⟩
theorem oZ.flat {G : Nat -> Prop} {O : bF} {l : List TV} {cs : Array Value} (h : oZ w G π O l cs) (hs : cs.size = aP l l.length) : ∀ u ∈ cs, u.oneCell' = true := fun u hu => by
 obtain ⟨i, hi, rfl⟩ := Array.getElem_of_mem hu
 obtain ⟨j, x, cc, a1, a2, a3⟩ := Jc l i (by omega)
 obtain ⟨u', b1, b2, _⟩ := h j x a1 cc a2
 rw [<- a3, Array.getElem?_eq_getElem hi] at b1
 rw [aC b1]; exact b2
theorem aiH : ∀ {l l' : List TV}, l.map TV.size = l'.map TV.size -> ∀ k, aP l k = aP l' k
 | [], [], _, _ => rfl
 | [], _ :: _, h, _ => by simp at h
 | _ :: _, [], h, _ => by simp at h
 | x :: r, y :: r', h, 0 => rfl
 | x :: r, y :: r', h, k + 1 => by
  simp only [List.map_cons, List.cons.injEq] at h
  simp only [aP, h.1, aiH h.2 k]
theorem aiI (l : List TV) {j k : Nat} (hj : j <= l.length) (hk : j <= k) : aP l j <= aP l k := by
 obtain ⟨i, rfl⟩ : ∃ i, k = j + i := ⟨k - j, by omega⟩
 rw [JY l j i hj]; omega
theorem aCP {x : TV} {G : Nat -> Prop} {O : bF} {m : List TV} (h : J7 O x = some m) {v : Value} (hv : VR w G π O x v) : v.cells.size = aP m m.length /\ oZ w G π O m v.cells := by
 have one : (if CX O x = true then some [x] else none) = some m -> v.cells.size = aP m m.length /\ oZ w G π O m v.cells := fun h => by
  split at h
  ·rename_i hk
   obtain rfl := aC h
   obtain ⟨a1, a2⟩ := aiZ hk hv
   refine ⟨by rw [a1]; simp [aP], fun j y hy cc hcc => ?_⟩
   obtain rfl : j = 0 := by have := (List.getElem?_eq_some_iff.1 hy).1; simpa using this
   simp only [List.getElem?_cons_zero, aS] at hy
   subst hy
   simpa [aP] using a2 cc hcc
  ·cases h
 cases x with
 | st n f =>
  obtain rfl := aC h
  obtain ⟨cs, e1, e2, e3⟩ := oZ.Jb hv
  subst e1
  exact ⟨by show cs.size = _; rw [e2]; congr 1; simp [oQ], e3⟩
 | _ => exact one h
theorem alW {d : TD} {G : Nat -> Prop} {O : bF} {ev : Operand -> TV} (hv : ∀ x, VR w G π O (ev x) (a.eval x)) : ∀ {r : List (Nat × Operand)} {l l' : List TV} {cells : Array Value}, zT ev O d r l = some l' -> aP l l.length <= cells.size -> oZ w G π O l cells ->
  ∃ cells', Instr.fill (placeOf d) cells (r.map fun p => (p.1, a.eval p.2)) = some cells' /\ cells'.size = cells.size /\ oZ w G π O l' cells' /\ l'.length = l.length /\ ∀ k, aP l' k = aP l k
 | [], l, l', cells, h, hs, hz => by
  simp only [zT, aS] at h
  subst h
  exact ⟨cells, rfl, rfl, hz, rfl, fun _ => rfl⟩
 | (i, o) :: r, l, l', cells, h, hs, hz => by
  simp only [zT] at h
  split at h
  rotate_left
  ·cases h
  rename_i off z hp
  split at h
  rotate_left
  ·cases h
  rename_i j hj
  split at h
  rotate_left
  ·cases h
  rename_i m hm
  split at h
  rotate_left
  ·cases h
  rename_i hk
  simp only [bC, fH] at hk
  obtain ⟨k1, k2⟩ := hk
  have hjo := List.find?_some hj
  rw [beq_iff_eq] at hjo
  have hjl : j <= l.length := by have := List.mem_of_find?_eq_some hj; rw [List.mem_range] at this; omega
  have hml : j + m.length <= l.length := by
   have := congrArg List.length k2
   simp only [List.length_map, List.length_take, List.length_drop] at this; omega
  obtain ⟨v1, v2⟩ := aCP hm (hv o)
  have hsz : (l.take j ++ m ++ l.drop (j + m.length)).map TV.size = l.map TV.size := by
   rw [List.map_append, List.map_append, <- k2, <- List.map_append, <- List.map_append]
   congr 1
   rw [List.append_assoc, <- List.drop_drop, List.take_append_drop, List.take_append_drop]
  have hlen : (l.take j ++ m ++ l.drop (j + m.length)).length = l.length := by
   have := congrArg List.length hsz
   simpa only [List.length_map] using this
  have hos := aiH hsz
  have hoz : aP l (j + m.length) = off + z := by
   rw [<- hos, List.append_assoc, JY _ j m.length (by simp; omega)]
   rw [show aP (l.take j ++ (m ++ l.drop (j + m.length))) j = off by rw [<- List.append_assoc, hos, hjo]]
   congr 1
   rw [List.drop_append_of_le_length (by simp; omega), List.drop_of_length_le (by simp; omega), List.nil_append]
   have := EK (m ++ l.drop (j + m.length)) m.length m.length (Nat.le_refl _)
   rw [List.take_left] at this
   rw [<- this, k1]
  have hfit : off + z <= cells.size := by rw [<- hoz]; exact Nat.le_trans (aiI l hml hml) hs
  have hf := TC off (a.eval o).cells.toList 0 cells (by simp [v1, k1]; omega)
  have e : (a.eval o).cells.zipIdx.foldl (fun cs (c, j) => cs.setIfInBounds (off + j) c) cells = ((a.eval o).cells.toList.zipIdx 0).foldl (fun cs p => cs.setIfInBounds (off + p.2) p.1) cells := by
   rw [<- Array.foldl_toList, Array.toList_zipIdx]
  obtain ⟨cells', g1, g2, g3, g4, g5⟩ := alW (cells := ((a.eval o).cells.toList.zipIdx 0).foldl (fun cs p => cs.setIfInBounds (off + p.2) p.1) cells) hv h (by rw [hf.1, hlen, hos]; exact hs) (fun q x hx cc hcc => by
   rw [hos, hf.2]
   have hvl : (a.eval o).cells.toList.length = z := by simp [v1, k1]
   have hql : q < l.length := by have := (List.getElem?_eq_some_iff.1 hx).1; omega
   by_cases q1 : q < j
   ·rw [List.append_assoc, List.getElem?_append_left (by simp; omega), List.getElem?_take_of_lt q1] at hx
    have : aP l q + x.size <= aP l j := by
     rcases JZ hx q1 with h' | h' <;> omega
    rw [if_neg (by omega)]
    exact hz q x hx cc hcc
   ·by_cases q2 : q < j + m.length
    ·have hx' : m[q - j]? = some x := by
      rw [List.append_assoc, List.getElem?_append_right (by simp; omega), List.getElem?_append_left (by simp; omega)] at hx
      rwa [List.length_take, Nat.min_eq_left hjl] at hx
     have ho' : aP l q = off + aP m (q - j) := by
      rw [<- hos q, List.append_assoc, show q = j + (q - j) by omega, JY _ j (q - j) (by simp; omega), show j + (q - j) - j = q - j by omega]
      rw [show aP (l.take j ++ (m ++ l.drop (j + m.length))) j = off by rw [<- List.append_assoc, hos, hjo]]
      congr 1
      rw [List.drop_append_of_le_length (by simp; omega), List.drop_of_length_le (by simp; omega), List.nil_append]
      have := EK (m ++ l.drop (j + m.length)) m.length (q - j) (by omega)
      rw [List.take_left] at this
      exact this.symm
     obtain ⟨u, a1, a2, a3⟩ := v2 (q - j) x hx' cc hcc
     have hle : aP m (q - j) + x.size <= aP m m.length := by
      rcases JZ hx' (show q - j < m.length by omega) with h' | h' <;> omega
     rw [if_pos (by omega)]
     exact ⟨u, by rw [Array.getElem?_toList, <- a1]; congr 1; omega, a2, a3⟩
    ·have hx' : l[q]? = some x := by
      rw [List.getElem?_append_right (by simp; omega), List.getElem?_drop] at hx
      rw [<- hx]; congr 1; simp; omega
     have := aiI l hml (show j + m.length <= q by omega)
     rw [if_neg (by omega)]
     exact hz q x hx' cc hcc)
  refine ⟨cells', ?_, g2.trans hf.1, g3, by rw [g4, hlen], fun k => (g5 k).trans (hos k)⟩
  simp only [List.map_cons, Instr.fill, hp]
  rw [if_neg (by simp [v1, k1]; omega), e]
  exact g1
theorem aGT {d : TD} {G : Nat -> Prop} {O : bF} {ev : Operand -> TV} (hv : ∀ x, VR w G π O (ev x) (a.eval x)) {r : List (Nat × Operand)} {l l' : List TV} {cells : Array Value} (h : EW ev O d r l = some l') (hs : aP l l.length <= cells.size) (hz : oZ w G π O l cells) :
  ∃ cells', Instr.fill (placeOf d) cells (r.map fun p => (p.1, a.eval p.2)) = some cells' /\ cells'.size = cells.size /\ oZ w G π O l' cells' /\ l'.length = l.length /\ ∀ k, aP l' k = aP l k := by
 unfold EW at h
 split at h
 ·rename_i x hx
  obtain rfl := aC h
  exact alZ hv hx hs hz
 ·exact alW hv h hs hz
theorem aDH {T ty e : TypeId} (h : P.underlying T = some (.slice e)) : (Builtin.cap_ #[T] ty #[.slice none 0 0]).run P w = .ok (.int .i64 0) w := by
 simp [Builtin.cap_, run_underlying h, goInt]
theorem amI (z : Array Value) (n q : Nat) (hq : q < n * z.size) (h : q % z.size < z.size) : (Builtin.zeroCells z n)[q]? = z[q % z.size]? := by
 unfold Builtin.zeroCells
 rw [Array.getElem?_map, Array.getElem?_range, if_pos hq]
 simp [h]
theorem aDC {t t' ty e : TypeId} {i : TypeInfo} {z : Value} {k : IntKind} (ht : P.underlying t = some (.slice e)) (ht' : P.underlying t' = some (.int k)) (hi : P.info? e = some i) (hz : i.zero = some z) (hsz : 0 < i.size) {w : World} {n : Nat} (hn : 0 < n)
  (h63 : n <= 140737488355328) (hb : n * i.bytes <= 140737488355328) (hfit : Builtin.nextslicecap n 0 * i.bytes <= 281474976710656) :
  (Builtin.append_ #[t, t'] ty #[.slice none 0 0, .int k (n : Int)]).run P w =
   .ok (.slice (some ⟨w.heap.size, 0, none⟩) n (grownCap w n 0 e)) (w.drew.alloc (.cells (Builtin.zeroCells z.cells n ++ Builtin.zeroCells z.cells (grownCap w n 0 e - n)) e)) := by
 have hw : IntKind.i64.wrap (n : Int) = (n : Int) := by simp [IntKind.wrap, IntKind.bits, IntKind.signed]; omega
 have h0 : ¬ ((n : Int) < 0) := by omega
 have hb' : ¬ ((281474976710656 : Int) < (n : Int) * (i.bytes : Int)) := by
  have : ((n * i.bytes : Nat) : Int) <= ((140737488355328 : Nat) : Int) := Int.ofNat_le.2 hb
  rw [Int.natCast_mul] at this
  omega
 have hne : n * i.size ≠ 0 := by
  have := Nat.mul_pos hn hsz; omega
 have hne' : n ≠ 0 := by omega
 have hne2 : i.size ≠ 0 := by omega
 have h63' : ¬ ((9223372036854775807 : Int) < (n : Int)) := by omega
 have h48' : ¬ (281474976710656 < Builtin.nextslicecap n 0 * i.bytes) := by omega
 simp [Builtin.append_, run_underlying ht, run_underlying ht', sizeOf, typeInfo, zeroValue, hi, hz, asInt, asIntOf, hw, h0, hb', hne', h63', h48', Question.forced, newRow, grownCap, Builtin.firstCells]
 exact fun h => absurd h hne
theorem aG4 (hT : dI P TI) (hm : aI c F π s a w) {T : TypeId} {x y : TV} {b : Bool} {z : Int} {kk : IntKind} (h : PD (TI T) (aA s.ob) z x = some (y, b)) (hb : b = true) {v : Value} (hv : VR w (Gz F w π (aA s.ob)) π (aA s.ob) x v) :
  ∃ v', (Instr.indexAt T v (.int kk z)).run P w = .ok v' w /\ VR w (Gz F w π (aA s.ob)) π (aA s.ob) y v' := by
 unfold PD at h
 split at h
 ·rename_i id i p k n i1 j1
  split at h
  ·rename_i ob ho
   split at h
   ·rename_i m u yy hpart
    split at h
    ·rename_i hk
     simp only [bC, beq_iff_eq] at hk
     obtain ⟨⟨⟨⟨k0, k1⟩, k2⟩, k3⟩, k4⟩ := hk
     simp only [aS, bJ] at h
     obtain ⟨rfl, rfl⟩ := h
     simp only [VR, ho] at hv
     obtain ⟨c0, g, pp, h1, h2, h3, h4, h5, h6, h7, h8⟩ := hv k4
     have hb' : 0 <= z /\ z < ((j1 - i1 : Nat) : Int) := of_decide_eq_true hb
     obtain rfl := h8 (by omega)
     subst k3
     obtain ⟨r, r1, r2, r3⟩ := Og m (i1 + Int.toNat z) u
     obtain ⟨l1, l2, _⟩ := TO.Yn hpart h1 h2 r1 (by simp only [DT.pO, fH]; omega)
     refine ⟨_, by rw [h7]; exact OY hT k0 hb'.1 hb'.2, ?_⟩
     simp only [VR, ho]
     refine fun _ => ⟨_, g, l1, l2, h3, ?_⟩
     have e1 : (i1 + z.toNat) * u.size = i1 * u.size + z.toNat * u.size := Nat.add_mul _ _ _
     rw [r3, k1, k2, e1]
     congr 3; omega
    ·cases h
   ·cases h
  ·cases h
 ·cases h
theorem asK {fs l : List TV} {i n : Nat} (h : Pj fs i n = some l) : aP l l.length = n /\ ∀ (j : Nat) (x : TV), l[j]? = some x -> ∃ j', fs[j']? = some x /\ aP fs j' = i + aP l j := by
 unfold Pj at h
 split at h
 ·rename_i j hj
  split at h
  ·rename_i m hm
   obtain rfl := aC h
   have h1 := List.find?_some hj
   have h2 := List.find?_some hm
   simp only [bC, beq_iff_eq, fH] at h1 h2
   obtain ⟨h2, h3⟩ := h2
   have hl : ((fs.drop j).take m).length = m := by rw [List.length_take, List.length_drop]; omega
   refine ⟨by rw [hl, EK _ _ _ (Nat.le_refl _)]; exact h3, fun k x hx => ?_⟩
   have hk : k < m := by have := (List.getElem?_eq_some_iff.1 hx).1; omega
   refine ⟨j + k, ?_, by rw [JY _ _ _ (by omega), EK _ _ _ (by omega), h1]⟩
   rw [List.getElem?_take, if_pos hk, List.getElem?_drop] at hx
   exact hx
  ·cases h
 ·cases h
theorem alK : ∀ {xs : List TV} {ls : List (List TV)}, Kt xs = some ls -> ls.length = xs.length /\ ∀ (i : Nat) (l : List TV), ls[i]? = some l -> ∃ n f, xs[i]? = some (.st n f) /\ l = oQ n f
 | [], ls, h => by obtain rfl := aC h; exact ⟨rfl, fun i l h => by simp at h⟩
 | .st n f :: r, ls, h => by
  simp only [Kt, Option.map_eq_some_iff] at h
  obtain ⟨l', h1, rfl⟩ := h
  obtain ⟨a, b⟩ := alK h1
  refine ⟨by simp [a], fun i l hl => ?_⟩
  cases i with
  | zero => obtain rfl := aC hl; exact ⟨n, f, rfl, rfl⟩
  | succ i => exact b i l (by simpa using hl)
theorem aeW {k : Nat} : ∀ {ls : List (List TV)}, (∀ l ∈ ls, aP l l.length = k) -> ∀ {j : Nat} {x : TV}, ls.flatten[j]? = some x -> ∃ i l j', ls[i]? = some l /\ l[j']? = some x /\ aP ls.flatten j = i * k + aP l j'
 | [], _, j, x, h => by simp at h
 | l :: r, hk, j, x, h => by
  rw [List.flatten_cons] at h ⊢
  by_cases q : j < l.length
  ·rw [List.getElem?_append_left q] at h
   refine ⟨0, l, j, rfl, h, ?_⟩
   have := EK (l ++ r.flatten) l.length j (by omega)
   rw [List.take_left] at this
   omega
  ·rw [List.getElem?_append_right (by omega)] at h
   obtain ⟨i, l', j', a1, a2, a3⟩ := aeW (fun l hl => hk l (by simp [hl])) h
   refine ⟨i + 1, l', j', by simpa using a1, a2, ?_⟩
   have h1 := JY (l ++ r.flatten) l.length (j - l.length) (by simp)
   rw [List.drop_left, show l.length + (j - l.length) = j by omega] at h1
   have h2 := EK (l ++ r.flatten) l.length l.length (Nat.le_refl _)
   rw [List.take_left] at h2
   have h3 := hk l (by simp)
   rw [h1, <- h2, h3, a3, Nat.add_mul]; omega
theorem alG (hT : dI P TI) (hm : aI c F π s a w) {T : TypeId} {x y : TV} (h : KG (TI T) (aA s.ob) x = some y) {v : Value} (hv : VR w (Gz F w π (aA s.ob)) π (aA s.ob) x v) :
  ∃ v', (Instr.loadAt T v).run P w = .ok v' w /\ VR w (Gz F w π (aA s.ob)) π (aA s.ob) y v' := by
 unfold KG at h
 split at h
 ·rename_i id i
  split at h
  ·rename_i fs ho
   split at h
   ·rename_i l hl
    split at h
    ·rename_i k2
     rw [beq_iff_eq] at k2
     obtain rfl := aC h
     obtain ⟨k3, k4⟩ := asK hl
     simp only [VR, ho] at hv
     obtain ⟨k0, g, q1, q2, q3, q4⟩ := hv rfl
     simp only [TO.loc, aS] at q1
     subst q1
     obtain ⟨g', cur, e', r1, r2, r3⟩ := hm.obj id _ ho
     rw [q3] at r1; obtain rfl := aC r1
     have acZ : ∀ (j : Nat) (x : TV), l[j]? = some x -> ∀ cc, cc < x.size -> ∃ u, w.cell? ⟨g, (π id).q + i + (aP l j + cc), none⟩ = some u /\ u.oneCell' = true /\ x.mG w (Gz F w π (aA s.ob)) π (aA s.ob) cc u := fun j x hx cc hcc => by
      obtain ⟨j', a1, a2⟩ := k4 j x hx
      obtain ⟨u, b1, b2, b3⟩ := r3 j' x a1 cc hcc
      exact ⟨u, by rw [tH r2.1, <- b1]; congr 1; omega, b2, b3⟩
     have hz : ∀ k, k < (TI T).size -> w.cell? ⟨g, (π id).q + i + k, none⟩ = some ((w.cell? ⟨g, (π id).q + i + k, none⟩).getD undef) := fun k hk => by
      obtain ⟨j, x, cc, a1, a2, a3⟩ := Jc l k (by omega)
      obtain ⟨u, b1, _⟩ := acZ j x a1 cc a2
      rw [a3, b1]; rfl
     have hrun := akY hT (fun k => (w.cell? ⟨g, (π id).q + i + k, none⟩).getD undef) (.inr k2) hz
     refine ⟨_, by rw [q4]; exact hrun, ?_⟩
     refine oZ.st (fun j x hx cc hcc => ?_) (by simp [k3])
     obtain ⟨u, a1, a2, a3⟩ := acZ j x hx cc hcc
     have hlt : aP l j + cc < (TI T).size := by
      have lj := (List.getElem?_eq_some_iff.1 hx).1
      rcases JZ hx lj with q | q <;> omega
     exact ⟨u, by simp [hlt, a1], a2, a3⟩
    ·cases h
   ·cases h
  ·cases h
 ·cases h
set_option maxHeartbeats 1000000 in
theorem aGW (hT : dI P TI) {rc : Nat -> Option (List (Option DT))} {o : Oper} {e : Eff} (h : tst TI TY rc s.ev (aA s.ob) o.dst o.op = some e) (hb : e.b = true) (hm : aI c F π s a w) : jR P c F s π a w o e := by
 obtain ⟨dst, op, ty, pos, after, g⟩ := o
 simp only at h
 cases op with
 | build T parts =>
  simp only [tst] at h
  split at h
  ·rename_i fs hfs
   split at h
   ·rename_i l hl
    split at h
    ·rename_i l' hl'
     split at h
     ·rename_i hk
      simp only [bC, beq_iff_eq, fH] at hk
      obtain ⟨k1, k2⟩ := hk
      obtain rfl := aC h
      obtain ⟨i, h1, h2, h3⟩ := (hT T).info (by omega)
      obtain ⟨z1, z2, z3, z4⟩ := (hT T).zc (by omega)
      have hz : oZ w (Gz F w π (aA s.ob)) π (aA s.ob) l (TI T).zero.cells := fun j x hx cc hcc => by
       obtain ⟨u, a1, a2⟩ := Jr hm hl j x hx cc hcc
       exact ⟨u, by rw [<- Array.getElem?_toList]; exact a1, a2⟩
      obtain ⟨cells, c1, c2, c3, c4, c5⟩ := aGT (fun x => hm.ev x) hl' (by rw [z1, k2]; exact Nat.le_refl _) hz
      have TP : P.built T (parts.map fun (i, x) => (i, a.eval x)).toList = some cells := by
       have e0 : (parts.map fun (i, x) => (i, a.eval x)).toList = parts.toList.map fun p => (p.1, a.eval p.2) := by simp
       rw [e0]
       unfold Program.built
       obtain ⟨fs, b1, b2⟩ := (hT T).uU k1
       simp only [h1, b1, h3, b2]
       have : placeOf (TI T) = fun i => (TI T).aP.toArray[i]? := by funext i; simp [placeOf, k1]
       rw [<- this]; exact c1
      have hx : execOp a.eval ⟨dst, .build T parts, ty, pos, after, g⟩ = (do pure (.value (<- Instr.build T (parts.map fun (i, x) => (i, a.eval x))))) := by simp only [execOp]
      have oL : (execOp a.eval ⟨dst, .build T parts, ty, pos, after, g⟩).run P w = .ok (.value (.agg cells)) w := by
       rw [hx]; simp only [Sem.run_bind, run_build w T _ cells TP, Result.andThen_ok, Sem.run_pure]
      clear hx TP
      exact ⟨_, _, π, .inl oL, hm, c3.st (by rw [c2, z1, c4, c5, k2])⟩
     ·cases h
    ·cases h
   ·cases h
  ·cases h
 | store T p y =>
  simp only [tst] at h
  split at h
  ·rename_i id i n f hp hy
   have hvp := hm.ev p
   have gB := hm.ev y
   rw [hp] at hvp
   rw [hy] at gB
   split at h
   ·rename_i fs ho
    split at h
    ·rename_i hk
     simp only [bC, beq_iff_eq, fH] at hk
     obtain ⟨⟨⟨k1, k2⟩, k3⟩, k4⟩ := hk
     subst k1
     obtain rfl := aC h
     simp only [VR, ho] at hvp
     obtain ⟨k, g0, h1, h2, h3, h4⟩ := hvp rfl
     simp only [TO.loc, aS] at h1
     subst h1
     obtain ⟨cs, e1, e2, e3⟩ := oZ.Jb gB
     have hlen : (oQ n f).length = n := by simp [oQ]
     have hcs : (a.eval y).cells = cs := by rw [e1]; rfl
     have hfl := e3.flat (by rw [hlen]; exact e2)
     have hpos : 0 < (TI T).size := ((hT T).zc (by omega)).2.2.2
     obtain ⟨cur, e0, c1, c2, c3⟩ := hm.writeAll (fs' := oQ n f) (vs := cs.toList) ho k3 (fun u hu => hfl u (by simpa using hu)) (by rw [hlen]; simp [e2]) (fun j x hx cc hcc => by
      obtain ⟨u, a1, _, a3⟩ := e3 j x hx cc hcc
      exact ⟨u, by rw [Array.getElem?_toList]; exact a1, a3⟩) h3 (by simp [e2, k4, hpos])
     refine ⟨undef, _, π, .inr ⟨?_, rfl⟩, c3, trivial⟩
     have hrun := run_store (P := P) (T := T) (v := a.eval y) hT (by omega) (by rw [hcs, e2, k4]) (fun u hu => hfl u (by rw [hcs] at hu; exact hu)) c1 (by rw [hcs]; exact c2)
     rw [<- h4, hcs] at hrun
     simp [execOp, hrun]
    ·cases h
   ·cases h
  ·cases h
 | buildSlice T n parts =>
  simp only [tst] at h
  split at h
  rotate_left
  ·cases h
  rename_i d
  split at h
  rotate_left
  ·cases h
  split at h
  rotate_left
  ·cases h
  rename_i ls hd hls
  split at h
  rotate_left
  ·cases h
  rename_i hk
  simp only [bC, beq_iff_eq, fH, List.all_eq_true, Option.isNone_iff_eq_none] at hk
  obtain ⟨⟨⟨⟨k1, k2⟩, k3⟩, k4⟩, k5⟩ := hk
  obtain rfl := aC h
  obtain ⟨l1, l2⟩ := alK hls
  obtain ⟨e', ie, b1, b2, b3, b4, b5, b6, b7, b8⟩ := (hT T).sl k1
  have hlen : n = parts.toList.length := by
   have := congrArg List.length k2
   simpa using this.symm
  have part : ∀ (i : Nat) (l : List TV), ls[i]? = some l -> ∃ (o : Operand) (cs : Array Value), (parts.toList.map (·.2))[i]? = some o /\ a.eval o = .agg cs /\ cs.size = (TI T).elem /\ oZ w (Gz F w π (aA s.ob)) π (aA s.ob) l cs := fun i l hl => by
   obtain ⟨m, f, h1, h2⟩ := l2 i l hl
   rw [List.getElem?_map] at h1
   obtain ⟨p, hp, h3⟩ := Option.map_eq_some_iff.1 h1
   have hv := hm.ev p.2
   rw [h3] at hv
   obtain ⟨cs, e1, e2, e3⟩ := oZ.Jb hv
   refine ⟨p.2, cs, by rw [List.getElem?_map, hp]; rfl, e1, ?_, by rw [h2]; exact e3⟩
   have := k3 l (List.mem_of_getElem? hl)
   rw [e2, <- this, h2]
   simp [oQ]
  have hus : ∀ u ∈ (parts.toList.map (·.2)).map a.eval, u.cells.size = ie.size := fun u hu => by
   obtain ⟨i, hi, rfl⟩ := List.getElem_of_mem hu
   simp only [List.length_map] at hi
   have hi2 : i < ls.length := by rw [l1]; simpa using hi
   obtain ⟨o, cs, h1, h2, h3, _⟩ := part i _ (List.getElem?_eq_getElem hi2)
   have : (parts.toList.map (·.2))[i]'(by simpa using hi) = o := by
    have := (List.getElem?_eq_some_iff.1 h1).2; exact this
   rw [List.getElem_map, this, h2, b3]; exact h3
  have hp : (parts.map fun (i, x) => (i, a.eval x)).toList = (List.range n).zip ((parts.toList.map (·.2)).map a.eval) := by
   rw [<- k2]
   simp only [Array.toList_map, List.map_map]
   generalize parts.toList = q
   induction q with
   | nil => rfl
   | cons p q ih => simp only [List.map_cons, List.zip_cons_cons, Function.comp, ih]
  obtain ⟨cur, c1, c2, c3⟩ := run_buildSlice (P := P) (w := w) b1 b2 b5 (by rw [b6, b3]) (by omega) hus (n := n) (by rw [hlen]; simp) (by rw [b3]; exact k4) hp
  have hF : oZ w (Gz F w π (aA s.ob)) π (aA s.ob) ls.flatten cur := fun j x hx cc hcc => by
   obtain ⟨i, l, j', a1, a2, a3⟩ := aeW k3 hx
   obtain ⟨o, cs, h1, h2, h3, h4⟩ := part i l a1
   obtain ⟨u, d1, d2, d3⟩ := h4 j' x a2 cc hcc
   have hlt : aP l j' + cc < ie.size := by rw [b3, <- h3]; exact (Array.getElem?_eq_some_iff.1 d1).1
   have h5 := c3 i (a.eval o) (by rw [List.getElem?_map, h1]; rfl) (aP l j' + cc) hlt
   refine ⟨u, ?_, d2, d3⟩
   rw [a3, <- Array.getElem?_toList, <- b3, show i * ie.size + aP l j' + cc = i * ie.size + (aP l j' + cc) by omega, h5, h2]
   exact d1
  have hR := hm.JX hd (fs := ls.flatten) (cur := cur) (e := e') (.none k5) hF
  have hx0 : execOp a.eval ⟨some d, .buildSlice T n parts, ty, pos, after, g⟩ = (do pure (.value (<- Instr.buildSlice T n (parts.map fun (i, x) => (i, a.eval x))))) := by simp only [execOp]
  have oL : (execOp a.eval ⟨some d, .buildSlice T n parts, ty, pos, after, g⟩).run P w = .ok (.value (.slice (some ⟨w.heap.size, 0, none⟩) n n)) (w.alloc (.cells cur e')) := by
   rw [hx0]; simp only [Sem.run_bind, c1, Result.andThen_ok, Sem.run_pure]
  refine ⟨_, _, _, .inl oL, hR, ?_⟩
  simp only [VR, List.singleton_append, aA, if_true]
  have hn : n <= maxLen := by
   have : n * 1 <= n * (TI T).elem := Nat.mul_le_mul_left _ b8
   simp only [maxLen]; omega
  exact fun _ => ⟨0, w.heap.size, ⟨w.heap.size, 0, none⟩, rfl, trivial, by simp [aW], Nat.zero_le _, Nat.le_refl _, hn, rfl, fun _ => by simp [aW]⟩
 | load T p =>
  simp only [tst] at h
  split at h
  ·split at h
   ·rename_i y hy
    obtain rfl := aC h
    obtain ⟨v, h1, h2⟩ := alG hT hm hy (hm.ev p)
    exact ⟨v, w, π, .inl (eP (e := Instr.loadAt T (a.eval p)) rfl h1), hm, h2⟩
   ·cases h
  ·cases h
 | box T x =>
  simp only [tst] at h
  split at h
  ·rename_i d n f hx
   have hv := hm.ev x
   rw [hx] at hv
   split at h
   ·rename_i hd
    split at h
    ·rename_i hk
     simp only [bC, beq_iff_eq, Option.isNone_iff_eq_none] at hk
     obtain rfl := aC h
     obtain ⟨cs, e1, e2, e3⟩ := oZ.Jb hv
     have hcs : (a.eval x).cells = cs := by rw [e1]; rfl
     have hR := hm.JX hd (fs := oQ n f) (cur := cs) (e := T) (.none hk.2) e3
     refine ⟨.pointer (some ⟨w.heap.size, 0, none⟩), _, _, .inl ?_, hR, ?_⟩
     ·refine eP (e := Instr.box T (a.eval x)) rfl ?_
      simp [Instr.box, newVar, newRow, hcs]
     ·simp only [VR, List.singleton_append, aA, if_true]
      exact fun _ => ⟨0, w.heap.size, rfl, trivial, by simp [aW], by simp [aW]⟩
    ·cases h
   ·cases h
  ·cases h
 | slice T x lo hi mx =>
  simp only [tst] at h
  split at h
  ·rename_i ra rb hx h1 h2
   have hv := hm.ev x
   rw [hx] at hv
   have hv' : a.eval x = .slice none 0 0 := hv
   split at h
   ·rename_i hk
    simp only [beq_iff_eq] at hk
    obtain rfl := aC h
    have hb : rU 0 ra rb = true := hb
    obtain ⟨el, ie, b1, b2, b3, _⟩ := (hT T).sl hk
    have opt : ∀ {o : Option Operand} {r : Option Int}, kG s.ev o = some r -> (o.map a.eval = none /\ r = none) \/ ∃ k z, o.map a.eval = some (.int k z) /\ r = some z := fun h => by
     rcases Uo hm h with ⟨rfl, rfl⟩ | ⟨x, k, z, rfl, rfl, e⟩
     ·exact .inl ⟨rfl, rfl⟩
     ·exact .inr ⟨k, z, by simp [e], rfl⟩
    obtain ⟨c1, c2, _, _⟩ := BK hb
    have e1 : hiN 0 rb = 0 := by omega
    have e2 : jA ra = 0 := by omega
    have := J9 (P := P) (w := w) b1 b2 (p := none) (n := 0) (Nat.le_refl 0) (opt h1) (opt h2) hb
    refine ⟨.slice none 0 0, w, π, .inl (eP (e := Instr.sliceAt T (a.eval x) (lo.map a.eval) (hi.map a.eval) (Option.map a.eval none)) rfl ?_), hm, rfl⟩
    rw [hv']
    simp only [e1, e2, Option.map_none, Nat.sub_self] at this
    simpa using this
   ·cases h
  ·cases h
 | call cl =>
  simp only [tst] at h
  obtain ⟨callee, args, ats⟩ := cl
  simp only at h
  split at h
  ·rename_i x T hxs hts
   have ha : args = #[x] := by apply Array.ext'; simpa using hxs
   have ht : ats = #[T] := by apply Array.ext'; simpa using hts
   subst ha; subst ht
   split at h
   ·rename_i hx
    have hv := hm.ev x
    rw [hx] at hv
    have hv' : a.eval x = .slice none 0 0 := hv
    split at h
    ·rename_i hk
     simp only [beq_iff_eq] at hk
     obtain rfl := aC h
     obtain ⟨el, ie, b1, _⟩ := (hT T).sl hk
     refine ⟨.int .i64 0, w, π, .inl (eP (e := Builtin.cap_ #[T] ty #[a.eval x]) (by rw [BigFrame.execOp_builtin, BigFrame.builtin_cap]; simp) (by rw [hv']; exact aDH b1)), hm, rfl⟩
    ·cases h
   ·cases h
  ·rename_i x y T T' hxs hts
   have ha : args = #[x, y] := by apply Array.ext'; simpa using hxs
   have ht : ats = #[T, T'] := by apply Array.ext'; simpa using hts
   subst ha; subst ht
   split at h
   ·rename_i d k n t hx hy TM
    have gQ := hm.ev x
    have gB := hm.ev y
    rw [hx] at gQ
    rw [hy] at gB
    have D9 : a.eval x = .slice none 0 0 := gQ
    have EC : a.eval y = .int k n := gB
    split at h
    ·rename_i hd
     split at h
     ·rename_i hk
      simp only [bC, beq_iff_eq] at hk
      obtain ⟨⟨⟨⟨k1, k2⟩, k3⟩, k4⟩, k5⟩ := hk
      obtain rfl := aC h
      obtain ⟨awE, hb1⟩ := Bool.and_eq_true_iff.1 (show (decide (0 < n) && wU n n (TI T).eb) = true from hb)
      have hb0 : (0 : Int) < n := of_decide_eq_true awE
      obtain ⟨m0, _, m2, m3⟩ := Ir hb1
      obtain ⟨m, rfl⟩ : ∃ m : Nat, n = (m : Int) := ⟨n.toNat, (Int.toNat_of_nonneg m0).symm⟩
      obtain ⟨el, ie, b1, b2, b3, b4, b5, b6, b7, b8⟩ := (hT T).sl k2
      have b9 := (hT T').int k k1
      have hmb : m * ie.bytes <= 140737488355328 := by
       rw [b4]; rw [<- Int.natCast_mul] at m2; exact Int.ofNat_le.1 m2
      have hm63 : m <= 140737488355328 := by omega
      have hrun := aDC (P := P) (ty := ty) (w := w) b1 b9 b2 b5 (by omega) (n := m) (by omega) hm63 hmb (by
       exact growslice_fits (by omega) hmb)
      have hge := grownCap_ge w m 0 el
      have hcm : grownCap w m 0 el <= maxLen := grownCap_le_maxLen w m 0 el (by simp [maxLen]; omega)
      obtain ⟨v1, v2⟩ := DT.sK k4 (BU (w := w) (G := Gz F w π (aA s.ob)) k4 k3)
      have hpos : 0 < t.size := by rw [<- k5]; exact b8
      have hcl : CL w (Gz F w π (aA s.ob)) t (List.replicate m t.dflt) (Builtin.zeroCells (TI T).ez.cells m).toList := by
       refine ⟨by simp [size_zeroCells, v1], fun i hi cc hcc => ?_⟩
       simp only [List.length_replicate] at hi
       obtain ⟨u, a1, a2, a3⟩ := v2 cc hcc
       have hq : i * t.size + cc < m * t.size := ED hi hcc
       refine ⟨u, ?_, a2, by rw [Ec]; exact a3⟩
       rw [Array.getElem?_toList, amI _ _ _ (by rw [v1]; exact hq) (by rw [v1]; exact Nat.mod_lt _ hpos), v1, Nat.mul_comm, Nat.mul_add_mod, Nat.mod_eq_of_lt hcc]
       exact a1
      have hsz2 : (Builtin.zeroCells (TI T).ez.cells m ++ Builtin.zeroCells (TI T).ez.cells (grownCap w m 0 el - m)).size = grownCap w m 0 el * t.size := by
       simp only [Array.size_append, size_zeroCells, v1, <- Nat.add_mul]
       congr 1; omega
      have hR := hm.newRow (cap := grownCap w m 0 el) hd hcl (w' := w.drew.alloc _) ((Below.refl _ _).drew.alloc (by simp) _) (.of (heap_alloc_new w.drew (.cells (Builtin.zeroCells (TI T).ez.cells m ++ Builtin.zeroCells (TI T).ez.cells (grownCap w m 0 el - m)) el))) (fun q hq => by
       rw [Array.getElem?_append_left (by simpa using hq), Array.getElem?_toList]) (by rw [hsz2]; exact Nat.le_refl _) (by simpa using hge) hcm
      refine ⟨_, _, _, .inl (eP (e := Builtin.append_ #[T, T'] ty #[a.eval x, a.eval y]) (by rw [BigFrame.execOp_builtin, BigFrame.builtin_append]; simp) (by rw [D9, EC]; exact hrun)), hR, ?_⟩
      simp only [VR, List.singleton_append, aA, if_true, aW, Pl.hdr, Int.toNat_natCast, List.length_replicate]
     ·cases h
    ·cases h
   ·cases h
  ·rename_i x T hxs hts
   have ha : args = #[x] := by apply Array.ext'; simpa using hxs
   have ht : ats = #[T] := by apply Array.ext'; simpa using hts
   subst ha; subst ht
   split at h
   ·rename_i id i j hx
    have hv := hm.ev x
    rw [hx] at hv
    split at h
    ·rename_i t l ho
     split at h
     ·rename_i hk
      simp only [bC, beq_iff_eq] at hk
      obtain ⟨⟨⟨k2, k3⟩, k4⟩, k5⟩ := hk
      obtain rfl := aC h
      have hij : i < j := of_decide_eq_true hb
      simp only [VR, ho] at hv
      obtain ⟨_, hjl, p, cp, hv', _, _, _, h7⟩ := hv
      obtain ⟨g, hg, rfl⟩ := h7 hij
      obtain ⟨el, ie, b1, b2, b3, b4, b5, b6, b7, b8⟩ := (hT T).sl k2
      obtain ⟨v1, v2⟩ := DT.sK k4 (BU (w := w) (G := Gz F w π (aA s.ob)) k4 k3)
      have hpos : 0 < t.size := by rw [<- k5]; exact b8
      rcases hm.obj id _ ho with ⟨h1, _⟩ | ⟨g', cur, e0, q1, q2, q3, q4, q5, q6⟩
      ·rw [h1] at hg; cases hg
      rw [hg] at q1; obtain rfl := aC q1
      have hzl : (Builtin.zeroCells (TI T).ez.cells (j - i)).toList.length = (j - i) * t.size := by simp [size_zeroCells, v1]
      have hjc : j * t.size <= (π id).cap * t.size := Nat.mul_le_mul_right _ (by omega)
      have hsub : (j - i) * t.size + i * t.size = j * t.size := by rw [<- Nat.add_mul]; congr 1; omega
      have hfit : (π id).q + i * t.size + (Builtin.zeroCells (TI T).ez.cells (j - i)).toList.length <= cur.size := by rw [hzl]; omega
      have hst := Jv P g ((π id).q + i * t.size) e0 (Builtin.zeroCells (TI T).ez.cells (j - i)).toList 0 cur w q2 (by simpa using hfit) (fun u hu => by
       simp only [Builtin.zeroCells, Array.toList_map, List.mem_map] at hu
       obtain ⟨q, _, rfl⟩ := hu
       have hm' : q % (TI T).ez.cells.size < t.size := by rw [v1]; exact Nat.mod_lt _ hpos
       obtain ⟨u, a1, a2, a3⟩ := v2 _ hm'
       rw [Array.getElem?_eq_getElem (by rw [v1] at hm' ⊢; exact hm')] at a1
       simp only [aS] at a1
       rw [getElem!_pos _ _ (by rw [v1] at hm' ⊢; exact hm'), a1]; exact a2)
      simp only [Nat.add_zero] at hst
      have hrun : (Builtin.clear_ #[T] ty #[a.eval x]).run P w = .ok (.tuple #[]) (w.setRow g (jB cur ((π id).q + i * t.size) (Builtin.zeroCells (TI T).ez.cells (j - i)).toList)) := by
       rw [hv']
       obtain ⟨m, hm'⟩ : ∃ m, j - i = m + 1 := ⟨j - i - 1, by omega⟩
       unfold jB
       rw [hm'] at hst ⊢
       simp [Builtin.clear_, run_underlying b1, zeroValue, typeInfo, b2, b5, hst]
      refine ⟨.tuple #[], _, π, .inl (eP (e := Builtin.clear_ #[T] ty #[a.eval x]) (by rw [BigFrame.execOp_builtin, BigFrame.builtin_clear]; simp) hrun), hm.write ho hg q2 ⟨rfl, by simp [FK]; omega⟩ rfl rfl fun G' O' hz _ => .inr ⟨g, _, e0, hg, GZ q2 (vX _ _ _ hfit), by simp [FK]; omega, q4, by rw [vX _ _ _ hfit]; exact q5, fun n hn cc hcc => ?_⟩, trivial⟩
      have hn' : n < l.length := by simp [FK] at hn; omega
      rw [KD _ _ _ _ hfit, hzl]
      by_cases hin : i <= n /\ n < j
      ·have h1 : i * t.size <= n * t.size := Nat.mul_le_mul_right _ hin.1
       have h2 : n * t.size + t.size <= j * t.size := by
        have := Nat.mul_le_mul_right t.size (show n + 1 <= j by omega)
        rw [Nat.add_mul] at this; omega
       have e1 : (FK l i j t.dflt).getD n t.dflt = t.dflt := by
        unfold FK
        rw [List.append_assoc, FU, if_neg (by simp; omega), FU, if_pos (by simp; omega), Ec]
       rw [if_pos (by omega), e1]
       obtain ⟨u, a1, a2, a3⟩ := v2 cc hcc
       have hsub2 : (n - i) * t.size + i * t.size = n * t.size := by rw [<- Nat.add_mul]; congr 1; omega
       have hq : (π id).q + n * t.size + cc - ((π id).q + i * t.size) = (n - i) * t.size + cc := by omega
       refine ⟨u, ?_, a2, DT.iE hz a3⟩
       have hlt : (n - i) * t.size + cc < (j - i) * t.size := ED (by omega) hcc
       rw [hq, Array.getElem?_toList, amI _ _ _ (by rw [v1]; exact hlt) (by rw [v1]; exact Nat.mod_lt _ hpos), v1, Nat.mul_comm, Nat.mul_add_mod, Nat.mod_eq_of_lt hcc]
       exact a1
      ·have e1 : (FK l i j t.dflt).getD n t.dflt = l.getD n t.dflt := by
        unfold FK
        rw [List.append_assoc, FU]
        by_cases h1 : n < i
        ·rw [if_pos (by simp; omega)]; simp [List.getD, h1]
        ·rw [if_neg (by simp; omega), FU, if_neg (by simp; omega), au9]
         congr 1
         simp; omega
       have hno : ¬ ((π id).q + i * t.size <= (π id).q + n * t.size + cc /\ (π id).q + n * t.size + cc < (π id).q + i * t.size + (j - i) * t.size) := by
        rintro ⟨x1, x2⟩
        rcases Nat.lt_or_ge n i with hlt | hge
        ·have := Nat.mul_le_mul_right t.size (show n + 1 <= i by omega)
         rw [Nat.add_mul] at this; omega
        ·have := Nat.mul_le_mul_right t.size (show j <= n by omega)
         omega
       rw [if_neg hno, e1]
       obtain ⟨u, a1, a2, a3⟩ := q6 n hn' cc hcc
       exact ⟨u, a1, a2, DT.iE hz a3⟩
     ·cases h
    ·cases h
   ·cases h
  ·rename_i x T hxs hts
   have ha : args = #[x] := by apply Array.ext'; simpa using hxs
   have ht : ats = #[T] := by apply Array.ext'; simpa using hts
   subst ha; subst ht
   split at h
   ·rename_i id i p k n i1 j1 hx
    have hv := hm.ev x
    rw [hx] at hv
    split at h
    ·rename_i ob ho
     split at h
     ·rename_i hk
      simp only [bC, beq_iff_eq] at hk
      obtain rfl := aC h
      simp only [VR, ho] at hv
      obtain ⟨c0, g, pp, h1, h2, h3, h4, h5, h6, h7, h8⟩ := hv hk.2
      obtain ⟨el, ie, b1, _⟩ := (hT T).sl hk.1
      refine ⟨.int .i64 ((j1 - i1 : Nat) : Int), w, π, .inl (eP (e := Builtin.len_ #[T] ty #[a.eval x]) (by rw [BigFrame.execOp_builtin, BigFrame.builtin_len]; simp) ?_), hm, (DT.val_one (t := .int .i64) rfl).2 rfl⟩
      have : j1 - i1 <= maxLen := by omega
      rw [h7]
      simp [Builtin.len_, run_underlying b1, goInt]
     ·cases h
    ·cases h
   ·cases h
  ·cases h
 | indexAddr T x y =>
  simp only [tst] at h
  split at h
  ·rename_i kk z hy
   split at h
   ·rename_i r b hr
    obtain rfl := aC h
    have gB := hm.ev y
    rw [hy] at gB
    have EC : a.eval y = .int kk z := (DT.val_one (t := .int kk) rfl).1 gB
    obtain ⟨v', h1, h2⟩ := aG4 hT hm hr hb (hm.ev x)
    exact ⟨v', w, π, .inl (eP (e := Instr.indexAt T (a.eval x) (a.eval y)) rfl (by rw [EC]; exact h1)), hm, h2⟩
   ·cases h
  ·cases h
 | _ => simp [tst] at h
end
end
section
def ofBytes (s : List UInt8) : List Int := s.map fun b => ((b.toNat : Nat) : Int)
def O9 (l : List Int) : List UInt8 := l.map fun z => UInt8.ofNat z.toNat
def N9 {kt vt : DT} : List (kt.den × vt.den) -> kt.den -> List (kt.den × vt.den)
 | [], _ => []
 | p :: r, x => cond (kt.beq x p.1) r (p :: N9 r x)
theorem agS {kt vt : DT} {x : kt.den} : ∀ {l : List (kt.den × vt.den)}, (tV x l = none -> N9 l x = l) /\ ∀ i, tV x l = some i -> N9 l x = l.eraseIdx i
 | [] => ⟨fun _ => rfl, fun i h => by cases h⟩
 | p :: r => by
  obtain ⟨h1, h2⟩ := agS (x := x) (l := r)
  simp only [tV, N9]
  cases hb : kt.beq x p.1 with
  | true => exact ⟨fun h => (by cases h), fun i h => (by simp only [cond_true, aS] at h; subst h; rfl)⟩
  | false =>
   simp only [cond_false, Option.map_eq_none_iff, Option.map_eq_some_iff]
   refine ⟨fun h => by rw [h1 h], fun i ⟨j, hj, e⟩ => ?_⟩
   subst e
   rw [h2 j hj, List.eraseIdx_cons_succ]
def ZU (s : List UInt8) : Bool := s.all fun b => decide (b.toNat < 128)
def Ko : Nat -> List UInt8 -> List (Int × Int)
 | _, [] => []
 | n, b :: r => ((n : Int), ((b.toNat : Nat) : Int)) :: Ko (n + 1) r
def sH (TI : Nat -> TD) (ev : Operand -> TV) (L : bF) (dst : Option Nat) : Op -> Option Eff
 | .convert src T x => match ev x with
  | .dv .str s => match dst with
   | some d => if SBK && ((TI src).st && (TI T).b8) then (match L d with
    | none => some ⟨.row d, [(d, .row (.int .u8) (ofBytes s))], small s.length 1⟩
    | some _ => none) else none
   | none => none
  | y => if (TI src).b8 && (TI T).st then (match y.data L with
   | some ⟨.int .u8, l⟩ => some ⟨.dv .str (O9 l), [], true⟩
   | _ => none) else none
 | .call cl => match cl.callee, cl.args.toList, cl.argTypes.toList with
  | .builtin .delete, [m, k], T :: _ => (match ev m with
   | .row id => match L id with
    | some (.map kt vt l) => if (TI T).qM = some (kt, vt) then (match (ev k).as L kt with
     | some (x, b) => some ⟨.any, [(id, .map kt vt (N9 l x))], b⟩
     | none => none) else none
    | _ => none
   | _ => none)
  | .builtin .clear, [m], T :: _ => (match ev m with
   | .row id => match L id with
    | some (.map kt vt l) => if (TI T).qM = some (kt, vt) then some ⟨.any, [(id, .map kt vt [])], true⟩ else none
    | _ => none
   | _ => none)
  | _, _, _ => none
 | .range T x => match ev x, dst with
  | .dv .str s, some d => if (TI T).st then (match L d with
   | none => some ⟨.row d, [(d, .sit (Ko 0 s))], ZU s⟩
   | some _ => none) else none
  | _, _ => none
 | _ => none
section
variable {P : Program} {TI : Nat -> TD} {c : Cx} {F : Nat -> Prop} {s : TS} {π : Nat -> Pl} {a : Act} {w : World}
theorem ak9 {x : ByteArray} : ∀ (r : List UInt8) (n : Nat), x.data.toList.drop n = r -> ZU r = true -> Ny x n (Ko n r)
 | [], n, h, _ => by
  have h1 := congrArg List.length h
  simp only [List.length_drop, List.length_nil, Array.length_toList] at h1
  show x.data.size <= n
  omega
 | b :: r, n, h, ha => by
  have h1 := congrArg List.length h
  simp only [List.length_drop, List.length_cons, Array.length_toList] at h1
  have hlt : n < x.size := by show n < x.data.size; omega
  have hb : x[n]'hlt = b := by
   have h2 : x.data.toList[n]'(by simpa using hlt) = b := by
    have h3 := congrArg (fun l => l[0]?) h
    simp only [List.getElem?_drop, Nat.add_zero, List.getElem?_cons_zero] at h3
    rw [List.getElem?_eq_getElem (by simpa using hlt)] at h3
    exact aC h3
   exact h2
  simp only [ZU, List.all_cons, bC, fH] at ha
  have hd := decode_ascii x n hlt (by rw [hb]; exact ha.1)
  refine ⟨hlt, by rw [hd, hb], ?_⟩
  rw [hd]
  refine ak9 r (n + 1) ?_ ha.2
  have h4 := congrArg (List.drop 1) h
  simpa [List.drop_drop] using h4
theorem arQ (ns : List Int) : ∀ r : ByteArray, ns.foldl (fun r n => r.push (UInt8.ofNat n.toNat)) r = ⟨⟨r.data.toList ++ O9 ns⟩⟩ := by
 induction ns with
 | nil => intro r; simp [O9]
 | cons n ns ih =>
  intro r
  rw [List.foldl_cons, ih]
  apply ByteArray.ext
  apply Array.ext'
  simp [O9, ByteArray.push]
theorem asU (hT : dI P TI) (hm : aI c F π s a w) {T id : Nat} {ats : Array TypeId} {ty : TypeId} (hT0 : ats[0]? = some T) {kt vt : DT} {l : List (kt.den × vt.den)} (ho : aA s.ob id = some (.map kt vt l)) (hk : (TI T).qM = some (kt, vt)) {m u : Value} (hv : VR w (Gz F w π (aA s.ob)) π (aA s.ob) (.row id) m) {x : kt.den} (hx : kt.val x w (Gz F w π (aA s.ob)) u) :
  ∃ w', (Builtin.delete_ ats ty #[m, u]).run P w = .ok (.tuple #[]) w' /\ aI c F π ⟨s.sl, (id, .map kt vt (N9 l x)) :: s.ob⟩ a w' := by
 obtain ⟨k0, v0, i0, z0, hu, hkey, hi, hz0, hzz, hvp⟩ := (hT T).oM _ _ hk
 obtain ⟨g, es, ck, g1, g2, g3, g4, g5⟩ := hm.Dt ho
 simp only [VR, ho] at hv
 obtain ⟨g', e1, rfl⟩ := hv
 rw [g1] at e1; obtain rfl := aC e1
 have hf := Rj (P := P) hkey hx g3
 have TQ := hkey.check x w _ u es.isEmpty hx
 obtain ⟨d1, d2⟩ := agS (x := x) (l := l)
 cases hr : tV x l with
 | none =>
  rw [hr] at hf
  refine ⟨_, ?_, d1 hr ▸ hm.U4 ho g1 g2 g3 g4 g5⟩
  simp only [Builtin.delete_, hT0, List.getElem?_toArray, List.getElem?_cons_zero, List.getElem?_cons_succ, Sem.run_bind, run_underlying hu, Result.andThen_ok, MapKept.run_getObj_map g2, TQ, hf, xY, MapKept.run_setObj_map _ g2]
  rfl
 | some j =>
  rw [hr] at hf
  have hlen : es.toList.length = l.length := g3.1
  have hbelow : ∀ i, (es.eraseIdxIfInBounds j)[i]? = es[if i < j then i else i + 1]? := fun i => by
   rw [<- Array.getElem?_toList, Array.toList_eraseIdxIfInBounds, List.getElem?_eraseIdx]
   split <;> simp
  refine ⟨{ w with heap := w.heap.setIfInBounds g (.map (es.eraseIdxIfInBounds j) ck) }, ?_, ?_⟩
  ·simp only [Builtin.delete_, hT0, List.getElem?_toArray, List.getElem?_cons_zero, List.getElem?_cons_succ, Sem.run_bind, run_underlying hu, Result.andThen_ok, MapKept.run_getObj_map g2, TQ, hf, xY, Nat.zero_add, MapKept.run_setObj_map _ g2]
   rfl
  ·rw [d2 j hr]
   refine hm.U4 ho g1 g2 ⟨?_, fun i e p he hp => ?_⟩ (fun i e he => ?_) (fun i i' e e' he he' hb => ?_)
   ·rw [Array.toList_eraseIdxIfInBounds, List.length_eraseIdx, List.length_eraseIdx, hlen]
   ·rw [Array.toList_eraseIdxIfInBounds, List.getElem?_eraseIdx] at he
    rw [List.getElem?_eraseIdx] at hp
    by_cases q : i < j
    ·rw [if_pos q] at he hp; exact g3.2 _ e p he hp
    ·rw [if_neg q] at he hp; exact g3.2 _ e p he hp
   ·rw [hbelow] at he; exact g4 _ e he
   ·rw [hbelow] at he he'
    have := g5 _ _ e e' he he' hb
    split at this <;> split at this <;> omega
theorem ar9 (hT : dI P TI) (hm : aI c F π s a w) {T id : Nat} {ats : Array TypeId} {ty : TypeId} (hT0 : ats[0]? = some T) {kt vt : DT} {l : List (kt.den × vt.den)} (ho : aA s.ob id = some (.map kt vt l)) (hk : (TI T).qM = some (kt, vt)) {m : Value} (hv : VR w (Gz F w π (aA s.ob)) π (aA s.ob) (.row id) m) :
  ∃ w', (Builtin.clear_ ats ty #[m]).run P w = .ok (.tuple #[]) w' /\ aI c F π ⟨s.sl, (id, .map kt vt []) :: s.ob⟩ a w' := by
 obtain ⟨k0, v0, i0, z0, hu, hkey, hi, hz0, hzz, hvp⟩ := (hT T).oM _ _ hk
 obtain ⟨g, es, ck, g1, g2, g3, g4, g5⟩ := hm.Dt ho
 simp only [VR, ho] at hv
 obtain ⟨g', e1, rfl⟩ := hv
 rw [g1] at e1; obtain rfl := aC e1
 refine ⟨{ w with heap := w.heap.setIfInBounds g (.map #[] ck) }, ?_, hm.U4 ho g1 g2 ⟨rfl, fun i e p he hp => by simp at he⟩ (fun i e he => by simp at he) (fun i i' e e' he he' hb => by simp at he)⟩
 simp only [Builtin.clear_, hT0, List.getElem?_toArray, List.getElem?_cons_zero, Sem.run_bind, run_underlying hu, Result.andThen_ok, MapKept.run_getObj_map g2, MapKept.run_setObj_map _ g2]
 rfl
theorem aGZ (hT : dI P TI) {o : Oper} {e : Eff} (h : sH TI s.ev (aA s.ob) o.dst o.op = some e) (hb : e.b = true) (hm : aI c F π s a w) : jR P c F s π a w o e := by
 obtain ⟨dst, op, ty, pos, after, g⟩ := o
 simp only at h
 cases op with
 | convert src T x =>
  have hx := hm.ev x
  simp only [sH] at h
  have oL : ∀ {v : Value} {w' : World}, (convert src T (a.eval x)).run P w = .ok v w' -> (execOp a.eval ⟨dst, .convert src T x, ty, pos, after, g⟩).run P w = .ok (.value v) w' := fun h => eP (e := convert src T (a.eval x)) rfl h
  split at h
  ·rename_i q hq
   rw [hq] at hx
   obtain hx : a.eval x = .string ⟨⟨q⟩⟩ := (DT.val_one (t := .str) rfl).1 hx
   split at h
   ·rename_i d
    split at h
    ·rename_i hk
     simp only [bC] at hk
     split at h
     ·rename_i hd
      obtain rfl := aC h
      have hb : small q.length 1 = true := hb
      obtain ⟨s1, s2⟩ := Kq hb
      obtain ⟨el, b1, b2⟩ := (hT T).by8 hk.2.2
      have hrun := Lib.run_convert_string_bytes (P := P) w src T el ⟨⟨q⟩⟩ ((hT src).string hk.2.1) b1 b2
      have hsz : (⟨⟨q⟩⟩ : ByteArray).size = q.length := rfl
      have hge := grownCap_ge w q.length 0 el
      have hcm : grownCap w q.length 0 el <= maxLen := grownCap_le_maxLen w q.length 0 el (by simp [maxLen]; omega)
      have hB : Below w.heap.size w (Lib.bytesWorld w el ⟨⟨q⟩⟩) := by
       unfold Lib.bytesWorld
       exact Lib.below_freeze ((Below.refl _ w).drew.alloc (by simp) _) (p := ⟨w.heap.size, _, none⟩) (Nat.le_refl _) 1
      have hcs : (Lib.bytesCells w el ⟨⟨q⟩⟩).size = grownCap w q.length 0 el := by
       simp only [Lib.bytesCells, hsz, Array.size_append, Array.size_map, Array.size_replicate, List.size_toArray]; omega
      have hcl : CL w (Gz F w π (aA s.ob)) (.int .u8) (ofBytes q) (q.map fun b => Value.int .u8 b.toNat) := ⟨by simp [ofBytes, DT.size], fun i hi c hc => by
       have hc0 : c = 0 := by have : c < 1 := hc; omega
       subst hc0
       simp only [ofBytes, List.length_map] at hi
       exact ⟨.int .u8 q[i].toNat, by simp [DT.size, hi], rfl, by show Value.int .u8 _ = _; simp [ofBytes, hi, List.getD]⟩⟩
      refine ⟨_, _, _, .inl (oL (by rw [hx]; exact hrun)), hm.newRow (cap := grownCap w q.length 0 el) hd hcl hB ⟨_, Lib.bytesWorld_at_new w el ⟨⟨q⟩⟩, .inr ⟨hk.1, Nat.le_refl _⟩⟩ (fun i hi => ?_) (by rw [hcs]; simp [DT.size]) (by simpa [ofBytes] using hge) hcm, by simp [VR, aA, aW, Pl.hdr, ofBytes, hsz]⟩
      simp only [List.length_map] at hi
      rw [Lib.bytesCells, Array.getElem?_append_left (by simpa using hi)]
      simp [hi]
     ·cases h
    ·cases h
   ·cases h
  ·rename_i y hy
   split at h
   ·rename_i hk
    simp only [bC] at hk
    split at h
    ·rename_i l hl
     obtain rfl := aC h
     obtain ⟨el, b1, b2⟩ := (hT src).by8 hk.1
     obtain ⟨cs, p, cap, h1, h2, h3⟩ := src_ok (P := P) hm hl hx
     have h3' := h3 w fun _ _ _ => rfl
     refine ⟨.string ⟨⟨O9 l⟩⟩, w, π, .inl (oL ?_), hm, (DT.val_one (t := .str) rfl).2 rfl⟩
     rw [h2, run_convert_bytes_string w src T el p _ cap b1 b2 ((hT T).string hk.2)]
     rw [h2] at h3'
     have hcs : cs = l.map (Value.int .u8) := by
      apply List.ext_getElem?
      intro i
      by_cases hi : i < l.length
      ·obtain ⟨u, a1, a2, a3⟩ := h1.el i hi 0 (by simp [DT.size])
       obtain rfl : u = .int .u8 (l.getD i 0) := a3
       simp only [DT.size, Nat.mul_one, Nat.add_zero] at a1
       rw [a1]
       simp [hi, List.getD]
      ·rw [List.getElem?_eq_none (by rw [h1.len]; simp [DT.size]; omega), List.getElem?_eq_none (by simp; omega)]
     subst hcs
     cases p with
     | none =>
      have : l = [] := by
       have h5 : Result.ok (#[] : Array Value) w = Result.ok (l.map (Value.int .u8)).toArray w := h3'
       simp only [Result.ok.injEq] at h5
       have h6 := congrArg Array.size h5.1
       exact List.eq_nil_of_length_eq_zero (by simpa using h6.symm)
      subst this
      simp [Conv.bytesToString, O9]
      rfl
     | some p =>
      have h4 : (loadCells p l.length).run P w = .ok (l.map (Value.int .u8)).toArray w := by
       simpa [Builtin.firstCells, DT.size] using h3'
      rw [run_bytesToString w p l.length cap l h4, arQ]
      rfl
    ·cases h
   ·cases h
 | call cl =>
  obtain ⟨callee, args, ats⟩ := cl
  simp only [sH] at h
  split at h
  ·rename_i m k T r hxs hts
   have ha : args = #[m, k] := by apply Array.ext'; simpa using hxs
   subst ha
   have ht : ats[0]? = some T := by rw [<- Array.getElem?_toList, hts]; rfl
   split at h
   ·rename_i id he
    split at h
    ·rename_i kt vt l ho
     split at h
     ·rename_i hk
      split at h
      ·rename_i x b hx
       obtain rfl := aC h
       obtain ⟨k0, v0, i0, z0, hu, hkey, hi, hz0, hzz, hvp⟩ := (hT T).oM _ _ hk
       have hv := hm.ev m
       rw [he] at hv
       obtain ⟨w', r1, r2⟩ := asU hT hm (ty := ty) ht ho hk hv (TV.qL hx hb hkey.plain (hm.ev k))
       exact ⟨.tuple #[], w', π, .inl (eP (e := Builtin.delete_ ats ty #[a.eval m, a.eval k]) (by rw [BigFrame.execOp_builtin, BigFrame.builtin_delete]; simp) r1), r2, trivial⟩
      ·cases h
     ·cases h
    ·cases h
   ·cases h
  ·rename_i m T r hxs hts
   have ha : args = #[m] := by apply Array.ext'; simpa using hxs
   subst ha
   have ht : ats[0]? = some T := by rw [<- Array.getElem?_toList, hts]; rfl
   split at h
   ·rename_i id he
    split at h
    ·rename_i kt vt l ho
     split at h
     ·rename_i hk
      obtain rfl := aC h
      have hv := hm.ev m
      rw [he] at hv
      obtain ⟨w', r1, r2⟩ := ar9 hT hm (ty := ty) ht ho hk hv
      exact ⟨.tuple #[], w', π, .inl (eP (e := Builtin.clear_ ats ty #[a.eval m]) (by rw [BigFrame.execOp_builtin, BigFrame.builtin_clear]; simp) r1), r2, trivial⟩
     ·cases h
    ·cases h
   ·cases h
  ·cases h
 | range T x =>
  have hx := hm.ev x
  simp only [sH] at h
  split at h
  ·rename_i q d hq
   rw [hq] at hx
   obtain hx : a.eval x = .string ⟨⟨q⟩⟩ := (DT.val_one (t := .str) rfl).1 hx
   split at h
   ·rename_i hk
    split at h
    ·rename_i hd
     obtain rfl := aC h
     have hb : ZU q = true := hb
     have hB : Below w.heap.size w (w.alloc (.stringIter ⟨⟨q⟩⟩ 0)) := (Below.refl _ _).alloc (Nat.le_refl _) _
     have hlt : w.heap.size < (w.alloc (.stringIter ⟨⟨q⟩⟩ 0)).heap.size := (Array.getElem?_eq_some_iff.1 (xR w _)).1
     refine ⟨.pointer (some ⟨w.heap.size, 0, none⟩), _, aW π d ⟨some w.heap.size, 0, 0, iU⟩, .inl (eP (e := Instr.range T (a.eval x)) rfl ?_), hm.GK (p := ⟨some w.heap.size, 0, 0, iU⟩) (o := .sit (Ko 0 q)) hB hd (fun g' hg' => by cases hg'; exact ⟨Nat.le_refl _, hlt⟩) ⟨w.heap.size, ⟨⟨q⟩⟩, 0, by simp [aW], xR w _, ak9 q 0 rfl hb⟩, ?_⟩
     ·rw [hx]
      simp [Instr.range, run_underlying ((hT T).string hk), newObj]
      rfl
     ·simp [VR, aA, aW]
    ·cases h
   ·cases h
  ·cases h
 | _ => simp [sH] at h
theorem alC (hm : aI c F π s a w) {id : Nat} {l : List (Int × Int)} (ho : aA s.ob id = some (.sit l)) {v : Value} (hv : VR w (Gz F w π (aA s.ob)) π (aA s.ob) (.row id) v) (ty : TypeId) :
  (l = [] -> (Instr.next v true ty).run P w = .ok (.tuple #[.bool false]) w) /\ ∀ p r, l = p :: r -> ∃ w', (Instr.next v true ty).run P w = .ok (.tuple #[.bool true, .int .i64 p.1, .int .i32 p.2]) w' /\ aI c F π ⟨s.sl, (id, .sit r) :: s.ob⟩ a w' := by
 obtain ⟨g, x, n, g1, g2, g3⟩ := hm.obj id _ ho
 simp only [VR, ho] at hv
 obtain ⟨g', e1, rfl⟩ := hv
 rw [g1] at e1; obtain rfl := aC e1
 refine ⟨fun h => ?_, fun p r h => ?_⟩
 ·subst h
  exact Lib.run_next_end_at w g x n ty g2 (by have : x.size <= n := g3; omega)
 ·subst h
  obtain ⟨h1, h2, h3⟩ := g3
  refine ⟨w.iterAt g x (n + (Utf8.decode x n).2), ?_, ?_⟩
  ·rw [Lib.run_next_any_at w g x n ty g2 h1, h2]
  ·refine hm.set (w' := w.iterAt g x (n + (Utf8.decode x n).2)) ho g1 rfl rfl (fun _ => rfl) (fun b hb => ?_) ?_ ⟨rfl, rfl, rfl⟩ ⟨g, x, _, g1, Lib.iterAt_heap w g x n _ g2, h3⟩
   ·simp only [World.iterAt]; exact (MapKept.heap_set (o' := .stringIter x (n + (Utf8.decode x n).2)) g2).2 b hb
   ·simp [World.iterAt]
end
end
end Go.Proofs.YtfopcfnggdonkaaGreatDoor
