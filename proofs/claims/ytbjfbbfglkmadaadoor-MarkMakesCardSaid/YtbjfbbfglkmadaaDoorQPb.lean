/-
  Lifting Go functions to plain Lean functions, part Pb: the step of a loop over a map; each entry that is left may come next.
-/
import Derived.Test.YtbjfbbfglkmadaaDoorQPz
namespace Go.Proofs.YtbjfbbfglkmadaaDoor
open Go.RowKit
open Go.ChangeMaps (setBlock)
set_option linter.unusedVariables false

section
variable {P : Program} {c : Cx} {F : Nat → Prop} {s : TS}

/-- A step of an iterator: its object, and what is left. -/
def iterO (o : Oper) (s : TS) : Option (Nat × ((kt : DT) × (vt : DT) × List (kt.den × vt.den))) :=
  match o.op with
  | .next x false => match s.ev x with
    | .row id => match tlook s.ob id with
      | some (.iter kt vt l _) => some (id, ⟨kt, vt, l⟩)
      | _ => none
    | _ => none
  | _ => none

def nextS (o : Oper) (s : TS) (id : Nat) (kt vt : DT) (rest : List (kt.den × vt.den)) (p : kt.den × vt.den) : TS :=
  ⟨(s.put o.dst (.tup 3 fun i => ([.dv .bool true, .dv kt p.1, .dv vt p.2] : List TV).getD i .any)).sl, (id, .iter kt vt rest (some p)) :: s.ob⟩
def overS (o : Oper) (s : TS) : TS := s.put o.dst (.tup 1 fun i => ([.dv .bool false] : List TV).getD i .any)

theorem split_filter : ∀ {ls : List MapEntry} {e : MapEntry} {j : Nat}, (ls.map (·.born)).Nodup → ls[j]? = some e → ls.filter (fun x => !(x.born == e.born)) = ls.take j ++ ls.drop (j + 1)
  | [], e, j, _, h => by simp at h
  | x :: r, e, 0, hn, h => by
    simp only [List.getElem?_cons_zero, Option.some.injEq] at h
    subst h
    simp only [List.map_cons, List.nodup_cons, List.mem_map] at hn
    simp only [List.filter_cons, beq_self_eq_true, Bool.not_true, Bool.false_eq_true, if_false, List.take_zero, List.nil_append, Nat.zero_add, List.drop_succ_cons, List.drop_zero]
    rw [List.filter_eq_self]
    intro y hy
    simp only [Bool.not_eq_true', beq_eq_false_iff_ne]
    exact fun q => hn.1 ⟨y, hy, q⟩
  | x :: r, e, j + 1, hn, h => by
    simp only [List.getElem?_cons_succ] at h
    simp only [List.map_cons, List.nodup_cons, List.mem_map] at hn
    have hx : (x.born == e.born) = false := by
      simp only [beq_eq_false_iff_ne]
      exact fun q => hn.1 ⟨e, List.mem_of_getElem? h, q.symm⟩
    simp only [List.filter_cons, hx, Bool.not_false, if_true, List.take_succ_cons, List.cons_append, List.drop_succ_cons]
    rw [split_filter hn.2 h]

theorem next_ok {o : Oper} {id : Nat} {kt vt : DT} {l : List (kt.den × vt.den)} (h : iterO o s = some (id, ⟨kt, vt, l⟩)) :
    OpW P c F o (fun s' => (l = [] ∧ s' = overS o s) ∨ ∃ pre p post, l = pre ++ p :: post ∧ s' = nextS o s id kt vt (pre ++ post) p) s := by
  intro nn a w next Q ⟨π, hm⟩ hn
  obtain ⟨dst, op, ty, pos, after, gd⟩ := o
  unfold iterO at h
  simp only at h
  split at h
  · rename_i x
    split at h
    · rename_i id' hx
      split at h
      · rename_i kt' vt' l' cur ho
        simp only [Option.some.injEq, Prod.mk.injEq, Sigma.mk.injEq] at h
        obtain ⟨rfl, rfl, h⟩ := h
        obtain ⟨rfl, h⟩ := Sigma.mk.inj (eq_of_heq h)
        obtain rfl := eq_of_heq h
        have hv := hm.ev x
        rw [hx] at hv
        simp only [VR, ho] at hv
        obtain ⟨r0, e1, hv⟩ := hv
        obtain ⟨r, k1, g, es, ck, seen, ls, h1, h2, h3, h4, h5, h6, h7, h8, h9⟩ := hm.obj id' _ ho
        rw [k1] at e1; obtain rfl := Option.some.inj e1
        have hexec : ∀ {v : Value} {w' : World}, (Instr.next (.pointer (some ⟨r, 0, none⟩)) false ty).run P w = .ok v w' → (execOp a.eval ⟨dst, .next x false, ty, pos, after, gd⟩).run P w = .ok (.value v) w' := fun h =>
          exec_value (e := Instr.next (a.eval x) false ty) rfl (by rw [hv]; exact h)
        have hlf : (leftOf es seen).toList = ls := by rw [h6, leftOf, Array.toList_filter]
        rcases run_next_at (P := P) w ty r g ck ck seen es ck h1 h3 h4 (Nat.le_refl _) with ⟨q1, q2⟩ | ⟨e, q1, w1, q2, q3⟩
        · have hl : l' = [] := List.eq_nil_of_length_eq_zero (by rw [← h7, ← hlf]; simpa using q1)
          refine wpIn_value (hexec q2) (hn _ _ _ (.inl ⟨hl, rfl⟩) ⟨π, hm.put dst ⟨_, rfl, rfl, fun j hj => ?_⟩⟩)
          match j, hj with
          | 0, _ => exact ⟨.bool false, rfl, (DT.val_one (t := .bool) rfl).2 rfl⟩
        · rw [hlf] at q1
          obtain ⟨j, hj, he⟩ := List.getElem_of_mem q1
          have hej : ls[j]? = some e := by rw [List.getElem?_eq_getElem hj, he]
          obtain ⟨p, p1, p2, p3⟩ := h8 j e hej
          have hjl : j < l'.length := by omega
          have hp : l'[j] = p := by rw [List.getElem?_eq_getElem hjl] at p1; exact Option.some.inj p1
          have hspl : l' = l'.take j ++ p :: l'.drop (j + 1) := by
            rw [← hp, List.getElem_cons_drop, List.take_append_drop]
          have hm1 : RelM c F π s a w1 := by
            rcases q2 with rfl | rfl
            · exact hm
            · exact hm.drew
          have hw1 : ∀ b : Nat, w1.heap[b]? = w.heap[b]? := by
            rcases q2 with rfl | rfl <;> exact fun _ => rfl
          have hsz1 : w1.heap.size = w.heap.size := by rcases q2 with rfl | rfl <;> rfl
          have hes : e ∈ es.toList := by rw [h6] at q1; exact (List.mem_filter.1 q1).1
          have hr1 : w1.heap[r]? = some (.mapIter (some g) ck seen ck) := (hw1 r).trans h1
          obtain ⟨s1, s2⟩ := MapKept.heap_set (o' := .mapIter (some g) ck (seen.push e.born) ck) hr1
          have hoth : ∀ b, b ≠ r → (setBlock w1 r (.mapIter (some g) ck (seen.push e.born) ck)).heap[b]? = w1.heap[b]? := fun b hb => s2 b hb
          have hszs : (setBlock w1 r (.mapIter (some g) ck (seen.push e.born) ck)).heap.size = w1.heap.size := by simp [setBlock]
          have E : Evo w1 (Gz F w1 π (tlook s.ob)) π (tlook s.ob) (setBlock w1 r (.mapIter (some g) ck (seen.push e.born) ck)) (Gz F (setBlock w1 r (.mapIter (some g) ck (seen.push e.born) ck)) π (tlook ((id', .iter kt' vt' (l'.take j ++ l'.drop (j + 1)) (some p)) :: s.ob))) π (tlook ((id', .iter kt' vt' (l'.take j ++ l'.drop (j + 1)) (some p)) :: s.ob)) :=
            Evo.set ho k1 rfl rfl (fun _ => rfl) hoth hszs
          have fz1 : FzTo w (Gz F w π (tlook s.ob)) w1 (Gz F w1 π (tlook s.ob)) := fun b ⟨r0, r1, r2⟩ => ⟨⟨r0, by rw [hsz1]; exact r1, r2⟩, hw1 b⟩
          have hfz : FzTo w (Gz F w π (tlook s.ob)) (setBlock w1 r (.mapIter (some g) ck (seen.push e.born) ck)) (Gz F (setBlock w1 r (.mapIter (some g) ck (seen.push e.born) ck)) π (tlook ((id', .iter kt' vt' (l'.take j ++ l'.drop (j + 1)) (some p)) :: s.ob))) := fun b hb => by
            obtain ⟨a1, a2⟩ := fz1 b hb
            obtain ⟨a3, a4⟩ := E.fz b a1
            exact ⟨a3, a4.trans a2⟩
          have hnl : (ls.map (·.born)).Nodup := by rw [h6]; exact (List.filter_sublist.map _).nodup h5
          have hls' : (es.toList.filter fun x => !(seen.push e.born).contains x.born) = ls.take j ++ ls.drop (j + 1) := by
            rw [← split_filter hnl hej, h6, List.filter_filter]
            congr 1
            funext x
            simp only [Array.contains_push]
            cases hb : (x.born == e.born) <;> simp
          have hG := hfz g h2
          have hR := hm1.set (o' := .iter kt' vt' (l'.take j ++ l'.drop (j + 1)) (some p)) ho k1 rfl rfl (fun _ => rfl) hoth hszs ⟨rfl, rfl, rfl⟩
            ⟨r, k1, g, es, ck, seen.push e.born, ls.take j ++ ls.drop (j + 1), s1, hG.1, hG.2.trans h3, h4, h5, hls'.symm, by simp [h7], fun i e' he' => by
              have key : ∀ q, ls[q]? = some e' → (l'.take j ++ l'.drop (j + 1))[i]? = l'[q]? → ∃ y, (l'.take j ++ l'.drop (j + 1))[i]? = some y ∧ kt'.val y.1 _ _ e'.key ∧ vt'.val y.2 _ _ e'.val := fun q hq hq2 => by
                obtain ⟨y, y1, y2, y3⟩ := h8 q e' hq
                exact ⟨y, hq2.trans y1, DT.val_mono hfz y2, DT.val_mono hfz y3⟩
              by_cases hi : i < j
              · rw [List.getElem?_append_left (by simp; omega), List.getElem?_take_of_lt hi] at he'
                exact key i he' (by rw [List.getElem?_append_left (by simp; omega), List.getElem?_take_of_lt hi])
              · rw [List.getElem?_append_right (by simp; omega), List.getElem?_drop] at he'
                refine key _ he' ?_
                rw [List.getElem?_append_right (by simp; omega), List.getElem?_drop]
                congr 1
                simp; omega, fun p' hp' => by
              obtain rfl := Option.some.inj hp'
              exact ⟨e, seen, hes, rfl, DT.val_mono hfz p2, DT.val_mono hfz p3⟩⟩
          refine wpIn_value (hexec q3) (hn _ _ _ (.inr ⟨l'.take j, p, l'.drop (j + 1), hspl, rfl⟩) ⟨π, ?_⟩)
          have hput := hR.put dst (x := .tup 3 fun i => ([.dv .bool true, .dv kt' p.1, .dv vt' p.2] : List TV).getD i .any) (v := .tuple #[.bool true, e.key, e.val]) ⟨_, rfl, rfl, fun i hi => by
            match i, hi with
            | 0, _ => exact ⟨.bool true, rfl, (DT.val_one (t := .bool) rfl).2 rfl⟩
            | 1, _ => exact ⟨e.key, rfl, DT.val_mono hfz p2⟩
            | 2, _ => exact ⟨e.val, rfl, DT.val_mono hfz p3⟩⟩
          cases dst <;> exact hput
      · cases h
    · cases h
  · cases h

end
end Go.Proofs.YtbjfbbfglkmadaaDoor
