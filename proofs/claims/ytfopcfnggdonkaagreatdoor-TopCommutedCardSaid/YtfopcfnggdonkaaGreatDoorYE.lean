/-
 Lifting Go functions to plain Lean functions, parts Pb Q R S0 S1 S.
-/
import Derived.Test.YtfopcfnggdonkaaGreatDoorYC
namespace Go.Proofs.YtfopcfnggdonkaaGreatDoor
open Go.RowKit
set_option linter.unusedVariables false
section
open Go.ChangeMaps (setBlock)
section
variable {P : Program} {c : Cx} {F : Nat -> Prop} {s : TS}
def Pz (o : Oper) (s : TS) : Option (Nat × ((kt : DT) × (vt : DT) × List (kt.den × vt.den))) :=
 match o.op with
 | .next x false => match s.ev x with
  | .row id => match aA s.ob id with
   | some (.iter kt vt l _) => some (id, ⟨kt, vt, l⟩)
   | _ => none
  | _ => none
 | _ => none
def afL (o : Oper) (s : TS) (id : Nat) (kt vt : DT) (rest : List (kt.den × vt.den)) (p : kt.den × vt.den) : TS :=
 ⟨(s.put o.dst (.cZ 3 fun i => ([.dv .bool true, .dv kt p.1, .dv vt p.2] : List TV).getD i .any)).sl, (id, .iter kt vt rest (some p)) :: s.ob⟩
def overS (o : Oper) (s : TS) : TS := s.put o.dst (.cZ 1 fun i => ([.dv .bool false] : List TV).getD i .any)
theorem ajS : ∀ {ls : List MapEntry} {e : MapEntry} {j : Nat}, (ls.map (·.born)).Nodup -> ls[j]? = some e -> ls.filter (fun x => !(x.born == e.born)) = ls.take j ++ ls.drop (j + 1)
 | [], e, j, _, h => by simp at h
 | x :: r, e, 0, hn, h => by
  simp only [List.getElem?_cons_zero, aO] at h
  subst h
  simp only [List.map_cons, List.nodup_cons, List.mem_map] at hn
  simp only [List.filter_cons, beq_self_eq_true, Bool.not_true, Bool.false_eq_true, if_false, List.take_zero, List.nil_append, Nat.zero_add, List.drop_succ_cons, List.drop_zero]
  rw [List.filter_eq_self]
  intro y hy
  simp only [Bool.not_eq_true', beq_eq_false_iff_ne]
  exact fun q => hn.1 ⟨y, hy, q⟩
 | x :: r, e, j + 1, hn, h => by
  simp only [List.getElem?_cons_succ] at h
  simp only [List.map_cons, List.nodup_cons, List.mem_map] at hn
  have hx : (x.born == e.born) = false := by
   simp only [beq_eq_false_iff_ne]
   exact fun q => hn.1 ⟨e, List.mem_of_getElem? h, q.symm⟩
  simp only [List.filter_cons, hx, Bool.not_false, if_true, List.take_succ_cons, List.cons_append, List.drop_succ_cons]
  rw [ajS hn.2 h]
theorem azL {o : Oper} {id : Nat} {kt vt : DT} {l : List (kt.den × vt.den)} (h : Pz o s = some (id, ⟨kt, vt, l⟩)) :
  nJ P c F o (fun s' => (l = [] /\ s' = overS o s) \/ ∃ pre p post, l = pre ++ p :: post /\ s' = afL o s id kt vt (pre ++ post) p) s := by
 intro nn a w next Q ⟨π, hm⟩ hn
 obtain ⟨dst, op, ty, pos, after, gd⟩ := o
 unfold Pz at h
 simp only at h
 split at h
 ·rename_i x
  split at h
  ·rename_i id' hx
   split at h
   ·rename_i nN nS l' cur ho
    simp only [aO, bF, Sigma.mk.injEq] at h
    obtain ⟨rfl, rfl, h⟩ := h
    obtain ⟨rfl, h⟩ := Sigma.mk.inj (eq_of_heq h)
    obtain rfl := eq_of_heq h
    have hv := hm.ev x
    rw [hx] at hv
    simp only [VR, ho] at hv
    obtain ⟨r0, e1, hv⟩ := hv
    obtain ⟨r, k1, lx, h0, g, es, ck, seen, ls, h1, h2, h3, h4, h5, h6, h7, h8, h9⟩ := hm.obj id' _ ho
    rw [k1] at e1; obtain rfl := aB e1
    have lT : ∀ {v : Value} {w' : World}, (Instr.next (.pointer (some ⟨r, 0, none⟩)) false ty).run P w = .ok v w' -> (execOp a.eval ⟨dst, .next x false, ty, pos, after, gd⟩).run P w = .ok (.value v) w' := fun h =>
     dZ (e := Instr.next (a.eval x) false ty) rfl (by rw [hv]; exact h)
    have hlf : (leftOf es seen).toList = ls := by rw [h6, leftOf, Array.toList_filter]
    rcases run_next_at (P := P) w ty r g ck ck seen es ck h1 h3 h4 (Nat.le_refl _) with ⟨q1, q2⟩ | ⟨e, q1, w1, q2, q3⟩
    ·have hl : l' = [] := List.eq_nil_of_length_eq_zero (by rw [<- h0.length_eq, <- h7, <- hlf]; simpa using q1)
     refine Vu (lT q2) (hn _ _ _ (.inl ⟨hl, rfl⟩) ⟨π, hm.put dst ⟨_, rfl, rfl, fun j hj => ?_⟩⟩)
     match j, hj with
     | 0, _ => exact ⟨.bool false, rfl, (DT.val_one (t := .bool) rfl).2 rfl⟩
    ·rw [hlf] at q1
     obtain ⟨j, hj, he⟩ := List.getElem_of_mem q1
     have hej : ls[j]? = some e := by rw [List.getElem?_eq_getElem hj, he]
     obtain ⟨p, p1, p2, p3⟩ := h8 j e hej
     have hjl : j < lx.length := by omega
     have hp : lx[j] = p := by rw [List.getElem?_eq_getElem hjl] at p1; exact aB p1
     have av1 : lx = lx.take j ++ p :: lx.drop (j + 1) := by
      rw [<- hp, List.getElem_cons_drop, List.take_append_drop]
     obtain ⟨pre, post, hl'⟩ : ∃ pre post, l' = pre ++ p :: post := List.append_of_mem (h0.mem_iff.1 (by rw [<- hp]; exact List.getElem_mem hjl))
     have hq : (lx.take j ++ lx.drop (j + 1)).Perm (pre ++ post) := by
      rw [av1, hl'] at h0
      exact (List.perm_middle.symm.trans (h0.trans List.perm_middle)).cons_inv
     have hm1 : aF c F π s a w1 := by
      rcases q2 with rfl | rfl
      ·exact hm
      ·exact hm.drew
     have hw1 : ∀ b : Nat, w1.heap[b]? = w.heap[b]? := by
      rcases q2 with rfl | rfl <;> exact fun _ => rfl
     have hsz1 : w1.heap.size = w.heap.size := by rcases q2 with rfl | rfl <;> rfl
     have hes : e ∈ es.toList := by rw [h6] at q1; exact (List.mem_filter.1 q1).1
     have hr1 : w1.heap[r]? = some (.mapIter (some g) ck seen ck) := (hw1 r).trans h1
     obtain ⟨s1, s2⟩ := MapKept.heap_set (o' := .mapIter (some g) ck (seen.push e.born) ck) hr1
     have hoth : ∀ b, b ≠ r -> (setBlock w1 r (.mapIter (some g) ck (seen.push e.born) ck)).heap[b]? = w1.heap[b]? := fun b hb => s2 b hb
     have ad1 : (setBlock w1 r (.mapIter (some g) ck (seen.push e.born) ck)).heap.size = w1.heap.size := by simp [setBlock]
     have E : fK w1 (Gz F w1 π (aA s.ob)) π (aA s.ob) (setBlock w1 r (.mapIter (some g) ck (seen.push e.born) ck)) (Gz F (setBlock w1 r (.mapIter (some g) ck (seen.push e.born) ck)) π (aA ((id', .iter nN nS (pre ++ post) (some p)) :: s.ob))) π (aA ((id', .iter nN nS (pre ++ post) (some p)) :: s.ob)) :=
      fK.set ho k1 rfl rfl (fun _ => rfl) hoth ad1
     have fz1 : eH w (Gz F w π (aA s.ob)) w1 (Gz F w1 π (aA s.ob)) := fun b ⟨r0, r1, r2⟩ => ⟨⟨r0, by rw [hsz1]; exact r1, r2⟩, hw1 b⟩
     have hfz : eH w (Gz F w π (aA s.ob)) (setBlock w1 r (.mapIter (some g) ck (seen.push e.born) ck)) (Gz F (setBlock w1 r (.mapIter (some g) ck (seen.push e.born) ck)) π (aA ((id', .iter nN nS (pre ++ post) (some p)) :: s.ob))) := fun b hb => by
      obtain ⟨a1, a2⟩ := fz1 b hb
      obtain ⟨a3, a4⟩ := E.fz b a1
      exact ⟨a3, a4.trans a2⟩
     have hnl : (ls.map (·.born)).Nodup := by rw [h6]; exact (List.filter_sublist.map _).nodup h5
     have avN : (es.toList.filter fun x => !(seen.push e.born).contains x.born) = ls.take j ++ ls.drop (j + 1) := by
      rw [<- ajS hnl hej, h6, List.filter_filter]
      congr 1
      funext x
      simp only [Array.contains_push]
      cases hb : (x.born == e.born) <;> simp
     have hG := hfz g h2
     have hR := hm1.set (o' := .iter nN nS (pre ++ post) (some p)) ho k1 rfl rfl (fun _ => rfl) hoth ad1 ⟨rfl, rfl, rfl⟩
      ⟨r, k1, lx.take j ++ lx.drop (j + 1), hq, g, es, ck, seen.push e.born, ls.take j ++ ls.drop (j + 1), s1, hG.1, hG.2.trans h3, h4, h5, avN.symm, by simp [h7], fun i e' he' => by
       have key : ∀ q, ls[q]? = some e' -> (lx.take j ++ lx.drop (j + 1))[i]? = lx[q]? -> ∃ y, (lx.take j ++ lx.drop (j + 1))[i]? = some y /\ nN.val y.1 _ _ e'.key /\ nS.val y.2 _ _ e'.val := fun q hq hq2 => by
        obtain ⟨y, y1, y2, y3⟩ := h8 q e' hq
        exact ⟨y, hq2.trans y1, DT.gV hfz y2, DT.gV hfz y3⟩
       by_cases hi : i < j
       ·rw [List.getElem?_append_left (by simp; omega), List.getElem?_take_of_lt hi] at he'
        exact key i he' (by rw [List.getElem?_append_left (by simp; omega), List.getElem?_take_of_lt hi])
       ·rw [List.getElem?_append_right (by simp; omega), List.getElem?_drop] at he'
        refine key _ he' ?_
        rw [List.getElem?_append_right (by simp; omega), List.getElem?_drop]
        congr 1
        simp; omega, fun p' hp' => by
       obtain rfl := aB hp'
       exact ⟨e, seen, hes, rfl, DT.gV hfz p2, DT.gV hfz p3⟩⟩
     refine Vu (lT q3) (hn _ _ _ (.inr ⟨pre, p, post, hl', rfl⟩) ⟨π, ?_⟩)
     have hput := hR.put dst (x := .cZ 3 fun i => ([.dv .bool true, .dv nN p.1, .dv nS p.2] : List TV).getD i .any) (v := .tuple #[.bool true, e.key, e.val]) ⟨_, rfl, rfl, fun i hi => by
      match i, hi with
      | 0, _ => exact ⟨.bool true, rfl, (DT.val_one (t := .bool) rfl).2 rfl⟩
      | 1, _ => exact ⟨e.key, rfl, DT.gV hfz p2⟩
      | 2, _ => exact ⟨e.val, rfl, DT.gV hfz p3⟩⟩
     cases dst <;> exact hput
   ·cases h
  ·cases h
 ·cases h
end
end
section
variable {α : Type}
def pg (E : Env) (ops : Array Oper) (o : Oper) (s : TS) (k : TS -> List Nat -> Option α) : Option α :=
 match o.guard with
 | none => eff E o s.ev (aA s.ob) fun e => k (s.app o.dst e) (e.u.map (·.1))
 | some (j, g) => match (ops[j]?).bind (·.dst) with
  | some d => match s.sl[d]? with
   | some (.dv .bool t) => cond t
     (cond g (eff E o (s.put (some d) (.dv .bool true)).ev (aA s.ob) fun e => k ((s.put (some d) (.dv .bool true)).app o.dst e) (e.u.map (·.1))) (k ((s.put (some d) (.dv .bool true)).put o.dst (.cst undef)) []))
     (cond g (k ((s.put (some d) (.dv .bool false)).put o.dst (.cst undef)) []) (eff E o (s.put (some d) (.dv .bool false)).ev (aA s.ob) fun e => k ((s.put (some d) (.dv .bool false)).app o.dst e) (e.u.map (·.1))))
   | some (.cst (.tuple _)) => k (s.put o.dst (.cst undef)) []
   | _ => none
  | none => none
class Jn (α : Type) where
 jn : Option α -> Option α -> Option α
 ok : ∀ {x y : Option α} {r : α}, jn x y = some r -> x = some r /\ y = some r
instance (priority := low) aIO (α : Type) : Jn α := ⟨fun _ _ => none, fun h => by cases h⟩
def jnU (x y : Option Unit) : Option Unit :=
 match x, y with
 | some _, some _ => some ()
 | _, _ => none
instance aIP : Jn Unit := ⟨jnU, fun {x y r} h => by
 cases x with
 | none => cases h
 | some x => cases y with
  | none => cases h
  | some y => exact ⟨rfl, rfl⟩⟩
def PG {β : Type} [Jn α] (f : β -> List β -> Option α) (pre : List β) (p : β) : List β -> Option α
 | [] => f p pre
 | q :: r => Jn.jn (f p (pre ++ q :: r)) (PG f (pre ++ [p]) q r)
def ZI {β : Type} [Jn α] (l : List β) (x0 : Option α) (f : β -> List β -> Option α) : Option α :=
 match l with
 | [] => x0
 | p :: r => PG f [] p r
theorem acI {β : Type} [Jn α] {f : β -> List β -> Option α} {z : α} : ∀ {r pre : List β} {p : β}, PG f pre p r = some z -> ∀ u q v, pre ++ p :: r = u ++ q :: v -> (pre.length <= u.length) -> f q (u ++ v) = some z
 | [], pre, p, h, u, q, v, e, hl => by
  have e1 := congrArg List.length e
  simp only [List.length_append, List.length_cons, List.length_nil] at e1
  obtain ⟨rfl, e2⟩ := List.append_inj e (by omega)
  obtain ⟨rfl, rfl⟩ := List.cons.inj e2
  simpa [PG] using h
 | x :: r, pre, p, h, u, q, v, e, hl => by
  simp only [PG] at h
  obtain ⟨h1, h2⟩ := Jn.ok h
  rcases Nat.lt_or_ge pre.length u.length with hlt | hge
  ·exact acI h2 u q v (by simpa using e) (by simp; omega)
  ·obtain ⟨rfl, e2⟩ := List.append_inj e (by omega)
   obtain ⟨rfl, rfl⟩ := List.cons.inj e2
   exact h1
theorem arI {β : Type} [Jn α] {l : List β} {x0 : Option α} {f : β -> List β -> Option α} {z : α} (h : ZI l x0 f = some z) : (l = [] -> x0 = some z) /\ ∀ u q v, l = u ++ q :: v -> f q (u ++ v) = some z := by
 cases l with
 | nil => exact ⟨fun _ => h, fun u q v e => by simp at e⟩
 | cons p r => exact ⟨(fun e => by cases e), fun u q v e => acI (pre := []) h u q v e (Nat.zero_le _)⟩
def yB [Jn α] (E : Env) (ops : Array Oper) : List Oper -> TS -> (TS -> Option α) -> Option α
 | [], s, k => k s
 | o :: r, s, k => match o.guard with
  | some _ => pg E ops o s fun s' _ => yB E ops r s' k
  | none => match twin E o s with
   | some (s1, s2, b) => chk b (Jn.jn (yB E ops r s1 k) (yB E ops r s2 k))
   | none => match Pz o s with
    | some (id, ⟨kt, vt, l⟩) => ZI l (yB E ops r (overS o s) k) fun p rest => yB E ops r (afL o s id kt vt rest p) k
    | none => pg E ops o s fun s' _ => yB E ops r s' k
def opsOf (op : Op) : List Operand := op.operands.toList
def looks (ops : Array Oper) (o : Oper) : List Operand :=
 opsOf o.op ++ (match o.guard with
  | some (j, _) => (match (ops[j]?).bind (·.dst) with
   | some d => [.tmp d]
   | none => [])
  | none => [])
def flat : Op -> Bool
 | .move _ => true
 | .assign _ => true
 | _ => false
def EI (o : Oper) (s : TS) : List Nat :=
 (if flat o.op then [] else qV 60 (aA s.ob) ((opsOf o.op).flatMap fun x => (s.ev x).ids) []) ++ (match o.dst with | some d => [d, 2000000 + d] | none => [])
def J4 (ops : Array Oper) (x i : Oper) : Bool :=
  (match x.dst with
   | some d => (looks ops i).all (fun z => match z with | .tmp t => t != d | _ => true) && i.dst != some d
   | none => true) &&
  (match i.dst with
   | some d => (looks ops x).all (fun z => match z with | .tmp t => t != d | _ => true)
   | none => true)
def qJ (a b : List Nat) : Bool := a.all fun i => !b.contains i
structure UK where
 i : Nat
 rd : List Nat
 ks : List Nat
def waits (o : Oper) (x : Nat) : Bool := o.after.toList.any fun e => e.on == x && Region.binds .any e
def QZ (ops : Array Oper) : Nat -> Oper -> Nat -> Bool
 | 0, _, _ => false
 | f + 1, o, x => o.after.toList.any fun e => Region.binds .any e && (e.on == x || match ops[e.on]? with
  | some oe => QZ ops f oe x
  | none => false)
def IB (ops : Array Oper) (x i : UK) : Bool :=
 match ops[x.i]?, ops[i.i]? with
 | some ox, some oi => waits oi x.i || (J4 ops ox oi && qJ x.ks i.rd && qJ x.ks i.ks && qJ i.ks x.rd) || QZ ops 8 oi x.i
 | _, _ => false
def Jj (o : Oper) (s : TS) (R : List Nat) : Bool :=
 flat o.op || ((opsOf o.op).flatMap fun x => (s.ev x).ids).all (fun i => R.contains i) && R.all fun i => match aA s.ob i with
  | some ob => ob.ids.all fun j => R.contains j
  | none => true
def prun (E : Env) (ops : Array Oper) : Nat -> List Oper -> List UK -> TS -> (TS -> Option α) -> Option α
 | _, [], _, s, k => k s
 | n, o :: l, hist, s, k =>
  if Jj o s (EI o s) then
   pg E ops o s fun s' ks => if hist.all fun x => IB ops x ⟨n, EI o s, ks⟩ then prun E ops (n + 1) l (⟨n, EI o s, ks⟩ :: hist) s' k else none
  else none
def PE (ops : Array Oper) : Bool :=
 (List.range ops.size).all fun i => match ops[i]? with
  | some o => o.after.toList.all fun e => !Region.binds .any e || decide (e.on < i)
  | none => true
def ad6 (id : Nat) : Exit -> Exit
 | .exit i => if i = id then .normal else .exit i
 | e => e
abbrev dC (α : Type) := Exit -> TS -> Option α
def aeM (f : TS -> dC α -> Option α) (k : dC α) : dC α := fun e s => match e with
 | .normal => f s k
 | .exit i => k (.exit i) s
 | .goto i => k (.goto i) s
 | .ret => k .ret s
 | _ => none
def Qd (id : Nat) (k : dC α) : dC α := fun e s => k (ad6 id e) s
def aeL (k : dC α) : dC α := fun e s => match e with
 | .goto _ => none
 | e => k e s
def tK (nm : TS -> Option TS) (k : dC α) (rec : TS -> Option α) : dC α := fun e s => match e with
 | .normal => match nm s with
  | some s1 => rec s1
  | none => none
 | .exit i => k (.exit i) s
 | .goto i => k (.goto i) s
 | .ret => k .ret s
 | _ => none
def eX (body : TS -> dC α -> Option α) (nm : TS -> Option TS) (k : dC α) : Nat -> TS -> Option α
 | 0, _ => none
 | n + 1, s => body s (tK nm k (eX body nm k n))
def PW : Code -> Nat
 | .region id _ _ => id
 | .seq a _ => PW a
 | .block _ a => PW a
 | .loop a => PW a
 | _ => 0
def TS.lit (s : TS) (c : Operand) (b : Bool) : TS :=
 match c with
 | .tmp t => s.put (some t) (.dv .bool b)
 | _ => s
def ahN (pp : List Nat) (lv : Nat -> Option Norm) (id : Nat) (s : TS) : Option TS :=
 match lv (1000000 + id) with
 | some nm => if nm.rows.isEmpty then TS.X7 pp nm.xZ s else s.pR pp nm
 | none => match lv (2000000 + id) with
  | some nm => s.pR pp nm
  | none => some s
def QP {β : Type} (CE : β -> TS -> dC α -> Option α) (nrm : TS -> Option TS) (k : dC α) : List β -> TS -> Option α
 | [], s1 => k .normal s1
 | x :: r, s1 => CE x s1 fun e s' => match e with
  | .normal => match nrm s' with
   | some s2 => QP CE nrm k r s2
   | none => none
  | .exit i => k (.exit i) s'
  | .ret => k .ret s'
  | _ => none
def Qe (O O' : List (Nat × TO)) : Bool := O.all fun p => match aA O' p.1 with
 | some o => o.live || (match o with | .dead => true | _ => false)
 | none => true
def Ub (O : List (Nat × TO)) : Bool := O.all fun p => !p.2.pK
def Gj (as_ body : List Nat -> TS -> dC α -> Option α) (p : Tmp) (x : TV) (s1 : TS) (K : dC α) : Option α :=
 if Ub s1.ob then as_ (s1.ob.map (·.1)) (s1.put (some p) x) fun e s2 => match e with
  | .normal => if Qe s1.ob s2.ob && Ub s2.ob then body (s2.ob.map (·.1)) s2 (fun e s3 => if Qe s2.ob s3.ob then K e ⟨s1.sl, s3.ob⟩ else none) else none
  | _ => none
 else none
def oJ [Jn α] (E : Env) (lv : Nat -> Option Norm) (N : Nat) : Code -> List Nat -> TS -> dC α -> Option α
 | .skip, pp, s, k => k .normal s
 | .region id ops dr, pp, s, k => match ahN pp lv id s with
  | some s1 => cond dr (if PE ops then prun E ops 0 ops.toList [] s1 fun s' => k .normal s' else none) (yB E ops ops.toList s1 fun s' => k .normal s')
  | none => none
 | .seq a b, pp, s, k => oJ E lv N a pp s (aeM (oJ E lv N b pp) k)
 | .cond c a b, pp, s, k => match s.ev c with
  | .dv .bool t => cond t (oJ E lv N a pp (s.lit c true) k) (oJ E lv N b pp (s.lit c false) k)
  | _ => none
 | .block id a, pp, s, k => oJ E lv N a pp s (Qd id k)
 | .scope a, pp, s, k => oJ E lv N a pp s (aeL k)
 | .label _, pp, s, k => k .normal s
 | .loop a, pp, s, k => match lv (PW a) with
  | some nm => match s.pR pp nm with
   | some s1 => eX (oJ E lv N a pp) (TS.pR pp nm) k N s1
   | none => none
  | none => none
 | .rangeFunc g ps a b, pp, s, k => match lv (PW b), ps.toList with
  | some nm, [p] => match s.pR pp nm with
   | some s1 => match E.seq (s1.ev g) with
    | some (bb, ⟨t, xs⟩) => chk bb (QP (fun x s1 K => Gj (oJ E lv N a) (oJ E lv N b) p (.dv t x) s1 K) (TS.pR pp nm) k xs s1)
    | none => none
   | none => none
  | _, _ => none
 | .exit id, pp, s, k => k (.exit id) s
 | .goto l, pp, s, k => k (.goto l) s
 | .ret, pp, s, k => k .ret s
 | _, _, _, _ => none
def den [Jn α] (E : Env) (lv : Nat -> Option Norm) (N : Nat) (c : Code) (s : TS) (k : dC α) : Option α := oJ E lv N c [] s k
def sub : Code -> List Nat -> Code
 | .seq a _, 0 :: p => sub a p
 | .seq _ b, _ :: p => sub b p
 | .cond _ a _, 0 :: p => sub a p
 | .cond _ _ b, _ :: p => sub b p
 | .block _ a, _ :: p => sub a p
 | .scope a, _ :: p => sub a p
 | .loop a, _ :: p => sub a p
 | .rangeFunc _ _ a _, 0 :: p => sub a p
 | .rangeFunc _ _ _ b, _ :: p => sub b p
 | c, _ => c
def GR [Jn α] (E : Env) (lv : Nat -> Option Norm) (N : Nat) (pp : List Nat) : Code -> List Nat -> dC α -> dC α
 | .seq a b, 0 :: p, k => GR E lv N pp a p (aeM (oJ E lv N b pp) k)
 | .seq _ b, _ :: p, k => GR E lv N pp b p k
 | .cond _ a _, 0 :: p, k => GR E lv N pp a p k
 | .cond _ _ b, _ :: p, k => GR E lv N pp b p k
 | .block id a, _ :: p, k => GR E lv N pp a p (Qd id k)
 | .scope a, _ :: p, k => GR E lv N pp a p (aeL k)
 | _, _, k => k
def fG [Jn α] (E : Env) (lv : Nat -> Option Norm) (N : Nat) (c : Code) (p : List Nat) (k : dC α) : dC α := GR E lv N [] c p k
structure End where
 lK : List (Nat × DT)
 nm : Norm
def PM (TI : Nat -> TD) (en : End) (rs : List ResultVar) (dec : List TV -> List (Nat × TO) -> Option α) (s : TS) : Option α :=
 match EJ TI s rs with
 | some l => match QY en.lK ⟨s.sl ++ l, s.ob⟩ with
  | some (s0, b) => chk b (match s0.norm en.nm with
   | some s1 => dec (s1.sl.drop s.sl.length) s1.ob
   | none => none)
  | none => none
 | none => none
def fin (TI : Nat -> TD) (en : End) (rs : List ResultVar) (dec : List TV -> List (Nat × TO) -> Option α) : dC α := fun e s =>
 match e with
 | .normal => PM TI en rs dec s
 | .ret => PM TI en rs dec s
 | _ => none
structure bJ where
 ρ : Type
 sig : List TV -> Option (List Md)
 ans : List TV -> List (Nat × TO) -> Option ρ
 enc : List TV -> List (Nat × TO) -> ρ -> TV
 bQ : List TV -> List (Nat × TO) -> ρ -> List (Nat × TO)
def Ve : List (Nat × bJ) -> Nat -> List TV -> Option (List Md)
 | [], _, _ => none
 | (i, c) :: r, f, xs => if f = i then (match c.sig xs with
  | some m => some m
  | none => Ve r f xs) else Ve r f xs
def Fb : List (Nat × bJ) -> Nat -> List TV -> List (Nat × TO) -> (TV -> List (Nat × TO) -> Option α) -> Option α
 | [], _, _, _, _ => none
 | (i, c) :: r, f, args, Of, k => if f = i then (match c.ans args Of with
  | some x => k (c.enc args Of x) (c.bQ args Of x)
  | none => Fb r f args Of k) else Fb r f args Of k
def dD (TI : Nat -> TD) (TY : Nat -> DT) (L : List (Nat × bJ)) (rc : Nat -> Option (List (Option DT))) (fz : Nat -> Bool) : Env where
 TI := TI
 TY := TY
 rc := rc
 fz := fz
 tw := fun _ => none
 sig := Ve L
 phi := fun f args Of k => Fb L f args Of k
 seq := fun _ => none
def Ee (TI : Nat -> TD) (TY : Nat -> DT) (L : List (Nat × bJ)) (rc : Nat -> Option (List (Option DT))) (fz : Nat -> Bool) (tw : Nat -> Option Nat) : Env := { dD TI TY L rc fz with tw := tw }
def bK [Jn α] (E : Env) (lv : Nat -> Option Norm) (N : Nat) (en : End) (c : Code) (rs : List ResultVar) (nt : Nat) (args : List TV) (O : List (Nat × TO)) (dec : List TV -> List (Nat × TO) -> Option α) : Option α :=
 den E lv N c ⟨args ++ List.replicate nt .any, O⟩ (fin E.TI en rs dec)
end
section
theorem Ql {s : TS} {d : Nat} {x : TV} (h : s.sl[d]? = some x) : s.put (some d) x = s := by
 obtain ⟨sl, ob⟩ := s
 simp only [TS.put, TS.mk.injEq, and_true]
 have hl := (List.getElem?_eq_some_iff.1 h).1
 apply List.ext_getElem?
 intro i
 by_cases e : d = i
 ·subst e; rw [List.getElem?_set_self hl]; exact h.symm
 ·rw [List.getElem?_set_ne e]
theorem TS.ae0 {s : TS} {c : Operand} {t : Bool} (h : s.ev c = .dv .bool t) : s.lit c t = s := by
 cases c with
 | tmp d =>
  simp only [TS.lit]
  refine Ql ?_
  simp only [TS.ev, List.getD] at h
  cases e : s.sl[d]? with
  | none => rw [e] at h; cases h
  | some x => rw [e] at h; exact congrArg some h
 | _ => rfl
inductive St (P : Program) (E : Env) (c : Cx) (F : Nat -> Prop) (ops : Array Oper) (o : Oper) (s : TS) : TS -> List Nat -> Prop
 | run (hg : o.guard = none) (e : Eff) (hd : ∀ (β : Type) (k' : Eff -> Option β), eff E o s.ev (aA s.ob) k' = k' e) : St P E c F ops o s (s.app o.dst e) (e.u.map (·.1))
 | want (j d : Nat) (g : Bool) (hg : o.guard = some (j, g)) (hd : (ops[j]?).bind (·.dst) = some d) (hs : s.sl[d]? = some (.dv .bool g)) (e : Eff) (he : ∀ (β : Type) (k' : Eff -> Option β), eff E o s.ev (aA s.ob) k' = k' e) : St P E c F ops o s (s.app o.dst e) (e.u.map (·.1))
 | pass (j d : Nat) (g t : Bool) (hg : o.guard = some (j, g)) (hd : (ops[j]?).bind (·.dst) = some d) (hs : s.sl[d]? = some (.dv .bool t)) (hne : t ≠ g) : St P E c F ops o s (s.put o.dst (.cst undef)) []
 | skip (j d : Nat) (g : Bool) (xs : Array Value) (hg : o.guard = some (j, g)) (hd : (ops[j]?).bind (·.dst) = some d) (hs : s.sl[d]? = some (.cst (.tuple xs))) : St P E c F ops o s (s.put o.dst (.cst undef)) []
section
variable {P : Program} {E : Env} {c : Cx} {F : Nat -> Prop} {s : TS}
theorem ahH (hT : bW P E.TI) (hE : mW P E) {ops : Array Oper} {o : Oper} {α : Type} {k : TS -> List Nat -> Option α} {r : α} (h : pg E ops o s k = some r) : ∃ s' ks, k s' ks = some r /\ St P E c F ops o s s' ks := by
 unfold pg at h
 split at h
 ·rename_i hg
  obtain ⟨e, h1, h2, _⟩ := ZJ (P := P) (c := c) (F := F) hT hE h
  exact ⟨_, _, h1, .run hg e h2⟩
 ·rename_i j g hg
  split at h
  ·rename_i d hd
   split at h
   ·rename_i t hs
    cases t with
    | true =>
     simp only [cond_true] at h
     rw [Ql hs] at h
     cases g with
     | true =>
      simp only [cond_true] at h
      obtain ⟨e, h1, h2, _⟩ := ZJ (P := P) (c := c) (F := F) hT hE h
      exact ⟨_, _, h1, .want j d true hg hd hs e h2⟩
     | false => exact ⟨_, _, h, .pass j d false true hg hd hs (by decide)⟩
    | false =>
     simp only [cond_false] at h
     rw [Ql hs] at h
     cases g with
     | false =>
      simp only [cond_false] at h
      obtain ⟨e, h1, h2, _⟩ := ZJ (P := P) (c := c) (F := F) hT hE h
      exact ⟨_, _, h1, .want j d false hg hd hs e h2⟩
     | true => exact ⟨_, _, h, .pass j d true false hg hd hs (by decide)⟩
   ·rename_i xs hs; exact ⟨_, _, h, .skip j d g xs hg hd hs⟩
   ·cases h
  ·cases h
theorem ZH (hT : bW P E.TI) (hE : mW P E) {o : Oper} {e : Eff} (h : ∀ (β : Type) (k' : Eff -> Option β), eff E o s.ev (aA s.ob) k' = k' e) : nJ P c F o (fun s' => s' = s.app o.dst e) s := by
 obtain ⟨e', h1, h2, h3⟩ := ZJ (P := P) (c := c) (F := F) (k := fun _ => some ()) (r := ()) hT hE (h Unit fun _ => some ())
 have : e' = e := by
  have a := h Eff fun x => some x
  rw [h2 Eff fun x => some x] at a
  exact aB a
 subst this; exact h3
theorem aF.akW {π : Nat -> Pl} {a : Act} {w : World} (h : aF c F π s a w) {ops : Array Oper} {j d : Nat} {xs : Array Value} (hd : (ops[j]?).bind (·.dst) = some d) (hs : s.sl[d]? = some (.cst (.tuple xs))) : yielded ops a.tmps j = none := by
 have h1 := h.slot d _ hs
 have hl : d < s.sl.length := (List.getElem?_eq_some_iff.1 hs).1
 have hl' : d < a.tmps.size := by rw [h.size]; exact hl
 have h2 : a.tmps.getD d undef = .tuple xs := h1
 have h3 : a.tmps[d]? = some (.tuple xs) := by
  rw [Array.getElem?_eq_getElem hl']; simp only [Array.getD, hl', dif_pos] at h2; exact congrArg some h2
 simp [yielded, hd, h3]
theorem PL.aBK {ops : Array Oper} {o : Oper} {l : List Oper} {K : TS -> Prop} {j d : Nat} {b b' : Bool} (hg : o.guard = some (j, b)) (hd : (ops[j]?).bind (·.dst) = some d) (hs : s.sl[d]? = some (.dv .bool b')) (hne : b' ≠ b)
  (h : PL P c F ops l K (s.put o.dst (.cst undef))) : PL P c F ops (o :: l) K s := fun nn a w Q hr hk => by
 have hr0 := hr
 obtain ⟨π, hm⟩ := hr0
 refine wpListIn_step fun K' hK' => ?_
 rw [if_neg (by simp [Region.wanted, hg, hm.yields hd hs]; exact hne)]
 exact ⟨fun _ _ => trivial, hK' _ _ (h nn _ w Q ⟨π, hm.put _ (x := .cst undef) rfl⟩ hk)⟩
theorem PL.aCP {ops : Array Oper} {o : Oper} {l : List Oper} {K : TS -> Prop} {j d : Nat} {b : Bool} {xs : Array Value} (hg : o.guard = some (j, b)) (hd : (ops[j]?).bind (·.dst) = some d) (hs : s.sl[d]? = some (.cst (.tuple xs)))
  (h : PL P c F ops l K (s.put o.dst (.cst undef))) : PL P c F ops (o :: l) K s := fun nn a w Q hr hk => by
 have hr0 := hr
 obtain ⟨π, hm⟩ := hr0
 refine wpListIn_step fun K' hK' => ?_
 rw [if_neg (by simp [Region.wanted, hg, hm.akW hd hs])]
 exact ⟨fun _ _ => trivial, hK' _ _ (h nn _ w Q ⟨π, hm.put _ (x := .cst undef) rfl⟩ hk)⟩
theorem St.pl (hT : bW P E.TI) (hE : mW P E) {ops : Array Oper} {o : Oper} {l : List Oper} {K : TS -> Prop} {s' : TS} {ks : List Nat} (h : St P E c F ops o s s' ks) (hk : PL P c F ops l K s') : PL P c F ops (o :: l) K s := by
 cases h with
 | run hg e hd => exact PL.EH hg ((ZH hT hE hd).mono fun s2 e2 => by subst e2; exact hk)
 | want j d g hg hd hs e he => exact PL.aF' hg hd hs ((ZH hT hE he).mono fun s2 e2 => by subst e2; exact hk)
 | pass j d g t hg hd hs hne => exact PL.aBK hg hd hs hne hk
 | skip j d g xs hg hd hs => exact PL.aCP hg hd hs hk
theorem L8 (hT : bW P E.TI) (hE : mW P E) {ops : Array Oper} {α : Type} [Jn α] : ∀ (l : List Oper) {s : TS} {k : TS -> Option α} {r : α}, yB E ops l s k = some r -> PL P c F ops l (fun s' => k s' = some r) s
 | [], s, k, r, h => PL.nil h
 | o :: l, s, k, r, h => by
  have plain : pg E ops o s (fun s' _ => yB E ops l s' k) = some r -> PL P c F ops (o :: l) (fun s' => k s' = some r) s := fun h => by
   obtain ⟨s', ks, h1, h2⟩ := ahH (P := P) (c := c) (F := F) hT hE h
   exact h2.pl hT hE (L8 hT hE l h1)
  simp only [yB] at h
  split at h
  ·exact plain h
  ·rename_i hg
   split at h
   ·rename_i s1 s2 b htw
    obtain ⟨hb, h⟩ := FO h
    obtain ⟨h1, h2⟩ := Jn.ok h
    exact PL.EH hg ((aF2 hT htw hb).mono fun s' e => by
     rcases e with rfl | rfl
     ·exact L8 hT hE l h1
     ·exact L8 hT hE l h2)
   ·split at h
    ·rename_i id kt vt l0 hit
     obtain ⟨h1, h2⟩ := arI h
     exact PL.EH hg ((azL hit).mono fun s' e => by
      rcases e with ⟨e, rfl⟩ | ⟨u, q, v, e, rfl⟩
      ·exact L8 hT hE l (h1 e)
      ·exact L8 hT hE l (h2 u q v e))
    ·exact plain h
end
end
section
section
variable {L L' : aZ} {x : TV}
theorem TV.DK (h : ∀ i ∈ x.ids, L i = L' i) : x.data L = x.data L' := by
 cases x with
 | row id => simp only [TV.data, h id (by simp [TV.ids])]
 | gZ id a b => simp only [TV.data, h id (by simp [TV.ids])]
 | dv t y => cases t <;> rfl
 | _ => rfl
theorem TV.Na (h : ∀ i ∈ x.ids, L i = L' i) : x.jW L = x.jW L' := by
 cases x with
 | row id => simp only [TV.jW, h id (by simp [TV.ids])]
 | gZ id a b => simp only [TV.jW, h id (by simp [TV.ids])]
 | dv t y => cases t <;> rfl
 | _ => rfl
theorem Jk (h : ∀ i ∈ x.ids, L i = L' i) (t : DT) : uN L x t = uN L' x t := by
 cases t <;> simp only [uN, FQ, TV.Na h]
theorem TV.qG (h : ∀ i ∈ x.ids, L i = L' i) (t : DT) : x.as L t = x.as L' t := by
 cases x with
 | row id => simp only [TV.as]; exact Jk h t
 | gZ id a b => simp only [TV.as]; exact Jk h t
 | dv u y => simp only [TV.as]; split <;> first | rfl | exact Jk h t
 | _ => rfl
theorem TV.Es (h : ∀ i ∈ x.ids, L i = L' i) : x.one' L = x.one' L' := by
 cases x with
 | row id => simp only [TV.one', h id (by simp [TV.ids])]
 | ptr id i p => simp only [TV.one', h id (by simp [TV.ids])]
 | _ => rfl
theorem TV.av5 (h : ∀ i ∈ x.ids, L i = L' i) (d : TD) (z : Int) : x.idx d L z = x.idx d L' z := by
 cases x with
 | view id i p k n a b => simp only [TV.idx, h id (by simp [TV.ids])]
 | row id => simp only [TV.idx, h id (by simp [TV.ids])]
 | gZ id a b => simp only [TV.idx, h id (by simp [TV.ids])]
 | ptr id i p => simp only [TV.idx, h id (by simp [TV.ids])]
 | dv t y => cases t <;> rfl
 | _ => rfl
theorem TV.atH (h : ∀ i ∈ x.ids, L i = L' i) (d : TD) (k : Nat) : x.fV d L k = x.fV d L' k := by
 cases x with
 | ptr id i p => simp only [TV.fV, h id (by simp [TV.ids])]
 | _ => rfl
theorem TV.axR (h : ∀ i ∈ x.ids, L i = L' i) (d : TD) : x.ld d L = x.ld d L' := by
 cases x with
 | ptr id i p => simp only [TV.ld, h id (by simp [TV.ids])]
 | _ => rfl
theorem axT (h : ∀ i ∈ x.ids, L i = L' i) (d : TD) : H5 L d x = H5 L' d x := by
 cases x with
 | row id => simp only [H5, h id (by simp [TV.ids])]
 | gZ id a b => simp only [H5, TV.DK h]
 | dv t y => cases t <;> rfl
 | _ => rfl
theorem awG : x.isNil L = x.isNil L' := by cases x <;> rfl
theorem ap3 (TI : Nat -> TD) (op : BinOp) (T : Nat) (y : TV) : J5 TI L op T x y = J5 TI L' op T x y := by
 unfold J5
 split <;> first | rfl | (simp only [awG (L := L) (L' := L')])
end
structure iY (o : Oper) (ev : Operand -> TV) (L L' : aZ) (R : List Nat) : Prop where
 ops : ∀ x ∈ opsOf o.op, ∀ i ∈ (ev x).ids, i ∈ R
 cl : ∀ i ∈ R, ∀ ob, L i = some ob -> ∀ j ∈ ob.ids, j ∈ R
 dst : ∀ d, o.dst = some d -> d ∈ R /\ 2000000 + d ∈ R
 eq : ∀ i ∈ R, L i = L' i
section
variable {o : Oper} {ev : Operand -> TV} {L L' : aZ} {R : List Nat}
theorem iY.at (h : iY o ev L L' R) {x : Operand} (hx : x ∈ opsOf o.op) : ∀ i ∈ (ev x).ids, L i = L' i := fun i hi => h.eq i (h.ops x hx i hi)
theorem aFZ (h : iY o ev L L' R) (TI : Nat -> TD) : gU TI ev L o.op = gU TI ev L' o.op := by
 have hat := @iY.at _ _ _ _ _ h
 generalize o.op = op at hat
 cases op with
 | nilCheck x =>
  have := hat (x := x) (by simp [opsOf, Op.operands])
  simp only [gU]
  split <;> first | rfl | (rename_i id i p he; rw [he] at this; simp only [this id (by simp [TV.ids])])
 | binOp op t x y u => simp only [gU]; exact ap3 _ _ _ _
 | load T p => simp only [gU, TV.axR (hat (x := p) (by simp [opsOf, Op.operands]))]
 | indexAddr T x i => simp only [gU, TV.av5 (hat (x := x) (by simp [opsOf, Op.operands]))]
 | fieldAddr T x i => simp only [gU, TV.atH (hat (x := x) (by simp [opsOf, Op.operands]))]
 | call c =>
  obtain ⟨callee, args, ats⟩ := c
  simp only [gU]
  split
  ·rename_i x T hx ht
   have ha : args = #[x] := by apply Array.ext'; simpa using hx
   subst ha
   rw [axT (hat (x := x) (by simp [opsOf, Op.operands, Call.operands]))]
  ·rfl
 | _ => rfl
theorem apH : ∀ {t : DT} {fs : List TV}, (∀ x ∈ fs, ∀ i ∈ x.ids, L i = L' i) -> rG L t fs = rG L' t fs := by
 intro t
 induction t with
 | pair a b iha ihb =>
  intro fs h
  cases fs with
  | nil => rfl
  | cons x r => simp only [rG, TV.qG (h x (by simp)), ihb (fs := r) fun y hy => h y (by simp [hy])]
 | _ => intro fs h; cases fs <;> rfl
theorem aFJ (h : iY o ev L L' R) (TI : Nat -> TD) (TY : Nat -> DT) : lL TI TY ev L o.op = lL TI TY ev L' o.op := by
 have hat := @iY.at _ _ _ _ _ h
 have hops := h.ops
 have hcl := h.cl
 have heq := h.eq
 generalize o.op = op at hat hops
 cases op with
 | slice T x lo hi mx =>
  have hx := hat (x := x) (by simp [opsOf, Op.operands])
  simp only [lL]
  split
  ·split
   ·rename_i id he; rw [he] at hx; simp only [hx id (by simp [TV.ids])]
   ·rename_i id i j he; rw [he] at hx; simp only [hx id (by simp [TV.ids])]
   ·rename_i id i p he; rw [he] at hx; simp only [hx id (by simp [TV.ids])]
   ·rfl
   ·rfl
   ·rw [TV.Na hx]
  ·rw [TV.Na hx]
  ·rfl
 | load T p =>
  have hx := hat (x := p) (by simp [opsOf, Op.operands])
  have ho := hops p (by simp [opsOf, Op.operands])
  simp only [lL]
  split
  ·rename_i id i he
   rw [he] at hx ho
   rw [<- hx id (by simp [TV.ids])]
   split
   ·rename_i fs hfs
    rw [apH (L := L) (L' := L') fun x hxm i hi => heq i (hcl id (ho id (by simp [TV.ids])) _ hfs i (by simp only [TO.ids, List.mem_flatMap]; exact ⟨x, hxm, hi⟩))]
   ·rfl
  ·rfl
 | typeAssert x X T ok => cases ok <;> rfl
 | _ => rfl
theorem aaK {t : DT} : ∀ {xs : List Operand}, (∀ x ∈ xs, ∀ i ∈ (ev x).ids, L i = L' i) -> xI ev L t xs = xI ev L' t xs
 | [], _ => rfl
 | x :: r, h => by simp only [xI, TV.qG (h x (by simp)), aaK (xs := r) fun y hy => h y (by simp [hy])]
theorem aj2 {t : DT} {d : TD} : ∀ {xs : List (Nat × Operand)} {z : t.den}, (∀ x ∈ xs, ∀ i ∈ (ev x.2).ids, L i = L' i) -> yC ev L t d xs z = yC ev L' t d xs z
 | [], z, _ => rfl
 | (i, x) :: r, z, h => by
  simp only [yC]
  split
  ·rename_i N hN
   have e := TV.qG (h (i, x) (by simp)) N.u
   simp only at e
   rw [e]
   split
   ·rename_i y b hy
    split
    ·rw [aj2 (xs := r) fun y hy => h y (by simp [hy])]
    ·rfl
   ·rfl
  ·rfl
theorem aB1 {x : TV} (h : ∀ i ∈ x.ids, L i = L' i) (ob : TO) (i : Nat) (p : List Nat) (d : TD) : ob.CB L i p x d = ob.CB L' i p x d := by
 cases ob with
 | row t l => simp only [TO.CB, TV.qG h]
 | aP fs =>
  cases p with
  | nil => rfl
  | cons j p =>
   simp only [TO.CB]
   split
   ·cases p with
    | nil => simp only [TV.Es h, TV.qG h]
    | cons q p => simp only [TV.qG h]
   ·rfl
 | _ => rfl
theorem aDD (TI : Nat -> TD) (TY : Nat -> DT) {d T : Nat} {x y : TV} (hd : L d = L' d) (hx : ∀ i ∈ x.ids, L i = L' i) (hy : ∀ i ∈ y.ids, L i = L' i) : I4 TI TY ev L d T x y = I4 TI TY ev L' d T x y := by
 unfold I4
 rw [hd]
 split
 ·rfl
 ·split
  ·rename_i id; simp only [hx id (by simp [TV.ids]), TV.DK hy]
  ·simp only [TV.DK hy]
  ·simp only [TV.DK hy]
  ·rfl
theorem aFN (h : iY o ev L L' R) (TI : Nat -> TD) (TY : Nat -> DT) (rc : Nat -> Option (List (Option DT))) : iW TI TY rc ev L o.dst o.op = iW TI TY rc ev L' o.dst o.op := by
 have hat := @iY.at _ _ _ _ _ h
 have hdst : ∀ d, o.dst = some d -> L d = L' d := fun d hd => h.eq d (h.dst d hd).1
 have adO : ∀ d, o.dst = some d -> L (2000000 + d) = L' (2000000 + d) := fun d hd => h.eq _ (h.dst d hd).2
 generalize o.op = op at hat
 generalize o.dst = dst at hdst adO
 cases op with
 | alloc T =>
  cases dst with
  | none => rfl
  | some d => simp only [iW, hdst d rfl, adO d rfl]
 | box T x =>
  have hx := hat (x := x) (by simp [opsOf, Op.operands])
  cases dst with
  | none => rfl
  | some d => simp only [iW, hdst d rfl, TV.Es hx, TV.qG hx]
 | buildSlice T n parts =>
  have hx := fun x => hat (x := x)
  cases dst with
  | none => rfl
  | some d =>
   simp only [iW]
   split
   ·rename_i d' t hd' hT
    obtain rfl := aB hd'
    rw [hdst d rfl, aaK (L := L) (L' := L') fun x hxm => hx x (by simpa [opsOf, Op.operands] using hxm)]
   ·rfl
 | makeSlice T x y =>
  cases dst with
  | none => rfl
  | some d =>
   simp only [iW]
   split
   ·rename_i d' _ _ _ _ hd' _ _
    obtain rfl := aB hd'
    rw [hdst d rfl]
   ·rfl
 | build T parts =>
  simp only [iW]
  rw [aj2 (L := L) (L' := L') fun x hxm => hat (x := x.2) (by simp only [opsOf, Op.operands]; exact List.mem_map_of_mem hxm)]
 | store T p y =>
  have hp := hat (x := p) (by simp [opsOf, Op.operands])
  have hy := hat (x := y) (by simp [opsOf, Op.operands])
  simp only [iW]
  split
  ·rename_i id i q he
   rw [he] at hp
   rw [hp id (by simp [TV.ids])]
   split
   ·rw [aB1 hy]
   ·rfl
  ·rfl
 | call c =>
  obtain ⟨callee, args, ats⟩ := c
  cases dst with
  | none => simp only [iW]
  | some d =>
   simp only [iW]
   split
   ·rename_i d' x y T T' hd' hxs hts
    obtain rfl := aB hd'
    have ha : args = #[x, y] := by apply Array.ext'; simpa using hxs
    subst ha
    rw [aDD (ev := ev) (L := L) (L' := L') TI TY (hdst d rfl) (hat (x := x) (by simp [opsOf, Op.operands, Call.operands])) (hat (x := y) (by simp [opsOf, Op.operands, Call.operands]))]
   ·rfl
 | _ => rfl
theorem aDM (h : iY o ev L L' R) (E : Env) : oQ E ev L o.dst o.op = oQ E ev L' o.dst o.op := by
 have hat := @iY.at _ _ _ _ _ h
 have hdst : ∀ d, o.dst = some d -> L d = L' d := fun d hd => h.eq d (h.dst d hd).1
 generalize o.op = op at hat
 generalize o.dst = dst at hdst
 cases op with
 | call c =>
  obtain ⟨callee, args, ats⟩ := c
  simp only [oQ]
  split
  ·rename_i d x y T T' hxs hts
   have ha : args = #[x, y] := by apply Array.ext'; simpa using hxs
   subst ha
   rw [hdst d rfl, TV.DK (hat (x := y) (by simp [opsOf, Op.operands, Call.operands]))]
  ·rfl
 | box T x =>
  have hx := hat (x := x) (by simp [opsOf, Op.operands])
  simp only [oQ, TV.qG hx]
 | assign x => simp only [oQ]
 | slice T x lo hi mx =>
  have hx := hat (x := x) (by simp [opsOf, Op.operands])
  simp only [oQ]
  unfold QX
  split
  ·rename_i d
   rw [hdst d rfl]
   split
   ·split
    ·rename_i id a b h1 h2 h3 h4
     rw [h2] at hx
     rw [hx id (by simp [TV.ids])]
    ·rfl
   ·rfl
  ·rfl
 | _ => rfl
theorem akF {d : TD} : ∀ {r : List (Nat × Operand)} {l : List TV}, (∀ x ∈ r, ∀ i ∈ (ev x.2).ids, L i = L' i) -> yD ev L d r l = yD ev L' d r l
 | [], l, _ => rfl
 | (i, x) :: r, l, h => by
  have e : zN L (ev x) = zN L' (ev x) := by
   have hx := h (i, x) (by simp)
   simp only at hx
   cases hv : ev x with
   | dv t y => rfl
   | _ => simp only [zN]; rw [hv] at hx; exact TV.Es hx
  simp only [yD, e]
  split
  ·split
   ·exact akF fun y hy => h y (by simp [hy])
   ·rfl
  ·rfl
theorem aBJ {x : TV} (h : ∀ i ∈ x.ids, L i = L' i) : zN L x = zN L' x := by
 cases hv : x with
 | dv t y => rfl
 | _ => simp only [zN]; rw [hv] at h; exact TV.Es h
theorem aBH {x : TV} (h : ∀ i ∈ x.ids, L i = L' i) : IG L x = IG L' x := by
 have e := aBJ h
 cases x with
 | st n f => rfl
 | _ => simp only [IG, e]
theorem akC {d : TD} : ∀ {r : List (Nat × Operand)} {l : List TV}, (∀ x ∈ r, ∀ i ∈ (ev x.2).ids, L i = L' i) -> yE ev L d r l = yE ev L' d r l
 | [], l, _ => rfl
 | (i, x) :: r, l, h => by
  have e : IG L (ev x) = IG L' (ev x) := aBH (h (i, x) (by simp))
  simp only [yE, e]
  split
  ·split
   ·split
    ·split
     ·exact akC fun y hy => h y (by simp [hy])
     ·rfl
    ·rfl
   ·rfl
  ·rfl
theorem aFP {d : TD} {r : List (Nat × Operand)} {l : List TV} (h : ∀ x ∈ r, ∀ i ∈ (ev x.2).ids, L i = L' i) : CQ ev L d r l = CQ ev L' d r l := by
 unfold CQ; rw [akF h, akC h]
theorem aCW {d : TD} {x : TV} (h : ∀ i ∈ x.ids, L i = L' i) : IY d L x = IY d L' x := by
 unfold IY
 split
 ·rename_i id i; rw [h id (by simp [TV.ids])]
 ·rfl
theorem aFS (h : iY o ev L L' R) (TI : Nat -> TD) (TY : Nat -> DT) (rc : Nat -> Option (List (Option DT))) : tst TI TY rc ev L o.dst o.op = tst TI TY rc ev L' o.dst o.op := by
 have hat := @iY.at _ _ _ _ _ h
 have hdst : ∀ d, o.dst = some d -> L d = L' d := fun d hd => h.eq d (h.dst d hd).1
 generalize o.op = op at hat
 generalize o.dst = dst at hdst
 cases op with
 | build T parts =>
  simp only [tst]
  split
  ·split
   ·rw [aFP (L := L) (L' := L') fun x hxm => hat (x := x.2) (by simp only [opsOf, Op.operands]; exact List.mem_map_of_mem hxm)]
   ·rfl
  ·rfl
 | store T p y =>
  have hp := hat (x := p) (by simp [opsOf, Op.operands])
  simp only [tst]
  split
  ·rename_i id i n f he he2
   rw [he] at hp
   rw [hp id (by simp [TV.ids])]
  ·rfl
 | buildSlice T n parts =>
  simp only [tst]
  split
  ·rename_i d; rw [hdst d rfl]
  ·rfl
 | load T p =>
  have hp := hat (x := p) (by simp [opsOf, Op.operands])
  simp only [tst, aCW hp]
 | box T x =>
  simp only [tst]
  split
  ·rename_i d n f he
   rw [hdst d rfl]
  ·rfl
 | call c =>
  obtain ⟨callee, args, ats⟩ := c
  simp only [tst]
  split
  ·rfl
  ·split
   ·rename_i d _ _ _ _ _ _
    rw [hdst d rfl]
   ·rfl
  ·rename_i x T hxs hts
   have ha : args = #[x] := by apply Array.ext'; simpa using hxs
   subst ha
   have hx := hat (x := x) (by simp [opsOf, Op.operands, Call.operands])
   split
   ·rename_i id i j he
    rw [he] at hx
    rw [hx id (by simp [TV.ids])]
   ·rfl
  ·rename_i x T hxs hts
   have ha : args = #[x] := by apply Array.ext'; simpa using hxs
   subst ha
   have hx := hat (x := x) (by simp [opsOf, Op.operands, Call.operands])
   split
   ·rename_i id i p k n i1 j1 he
    rw [he] at hx
    rw [hx id (by simp [TV.ids])]
   ·rfl
  ·rfl
 | indexAddr T x y =>
  have hx := hat (x := x) (by simp [opsOf, Op.operands])
  simp only [tst]
  have : ∀ z, MI (TI T) L z (ev x) = MI (TI T) L' z (ev x) := fun z => by
   unfold MI
   split
   ·rename_i id i p k n i1 j1 he
    rw [he] at hx
    rw [hx id (by simp [TV.ids])]
   ·rfl
  simp only [this]
 | _ => rfl
theorem aDI {TI : Nat -> TD} {T : Nat} {x y : TV} (hx : ∀ i ∈ x.ids, L i = L' i) (hy : ∀ i ∈ y.ids, L i = L' i) : QU TI L T x y = QU TI L' T x y := rfl
theorem aFB (h : iY o ev L L' R) (TI : Nat -> TD) : jL TI ev L o.dst o.op = jL TI ev L' o.dst o.op := by
 have hat := @iY.at _ _ _ _ _ h
 have hdst : ∀ d, o.dst = some d -> L d = L' d := fun d hd => h.eq d (h.dst d hd).1
 generalize o.op = op at hat
 generalize o.dst = dst at hdst
 cases op with
 | makeMap T r =>
  cases dst with
  | none => rfl
  | some d =>
   simp only [jL]
   cases (TI T).nC with
   | none => rfl
   | some kv => obtain ⟨kt, vt⟩ := kv; simp only [hdst d rfl]
 | lookup T m ix ok =>
  have hm := hat (x := m) (by simp [opsOf, Op.operands])
  simp only [jL]
  split
  ·rename_i id he
   rw [he] at hm
   rw [hm id (by simp [TV.ids])]
   split
   ·rw [TV.qG (hat (x := ix) (by simp [opsOf, Op.operands]))]
   ·rfl
  ·rfl
 | mapUpdate T m k y =>
  have hm := hat (x := m) (by simp [opsOf, Op.operands])
  simp only [jL]
  split
  ·rename_i id he
   rw [he] at hm
   rw [hm id (by simp [TV.ids])]
   split
   ·rw [TV.qG (hat (x := k) (by simp [opsOf, Op.operands])), TV.qG (hat (x := y) (by simp [opsOf, Op.operands]))]
   ·rfl
  ·rfl
 | range T m =>
  have hm := hat (x := m) (by simp [opsOf, Op.operands])
  simp only [jL]
  split
  ·rename_i d id he
   rw [he] at hm
   rw [hm id (by simp [TV.ids]), hdst d rfl]
  ·rfl
 | entry x =>
  have hx := hat (x := x) (by simp [opsOf, Op.operands])
  simp only [jL]
  split
  ·rename_i id he
   rw [he] at hx
   rw [hx id (by simp [TV.ids])]
  ·rfl
 | insert T m k y =>
  have hm := hat (x := m) (by simp [opsOf, Op.operands])
  simp only [jL]
  split
  ·rename_i id he
   rw [he] at hm
   rw [hm id (by simp [TV.ids])]
   split
   ·rw [TV.qG (hat (x := k) (by simp [opsOf, Op.operands])), TV.qG (hat (x := y) (by simp [opsOf, Op.operands]))]
   ·rfl
  ·rfl
 | call cl =>
  obtain ⟨callee, args, ats⟩ := cl
  simp only [jL]
  split
  ·rfl
  ·rfl
  ·rename_i x y hxs
   have ha : args = #[x, y] := by apply Array.ext'; simpa using hxs
   subst ha
   split
   ·exact aDI (hat (x := x) (by simp [opsOf, Op.operands, Call.operands])) (hat (x := y) (by simp [opsOf, Op.operands, Call.operands]))
   ·rfl
  ·rfl
 | _ => rfl
theorem aFV (h : iY o ev L L' R) (TI : Nat -> TD) : pX TI ev L o.dst o.op = pX TI ev L' o.dst o.op := by
 have hat := @iY.at _ _ _ _ _ h
 have hdst : ∀ d, o.dst = some d -> L d = L' d := fun d hd => h.eq d (h.dst d hd).1
 generalize o.op = op at hat
 generalize o.dst = dst at hdst
 cases op with
 | convert S T x =>
  have hx := hat (x := x) (by simp [opsOf, Op.operands])
  simp only [pX]
  split
  ·cases dst with
   | none => rfl
   | some d => simp only [hdst d rfl]
  ·rw [TV.DK hx]
 | range T x =>
  cases dst with
  | none => simp only [pX]; split <;> first | rfl | contradiction
  | some d =>
   simp only [pX]
   split
   ·rename_i d' _ he
    obtain rfl := aB he
    rw [hdst _ rfl]
   ·rfl
 | call cl =>
  obtain ⟨callee, args, ats⟩ := cl
  simp only [pX]
  split
  ·rename_i m k T r hxs hts
   have ha : args = #[m, k] := by apply Array.ext'; simpa using hxs
   subst ha
   have hm := hat (x := m) (by simp [opsOf, Op.operands, Call.operands])
   split
   ·rename_i id he
    rw [he] at hm
    rw [hm id (by simp [TV.ids])]
    split
    ·rw [TV.qG (hat (x := k) (by simp [opsOf, Op.operands, Call.operands]))]
    ·rfl
   ·rfl
  ·rename_i m T r hxs hts
   have ha : args = #[m] := by apply Array.ext'; simpa using hxs
   subst ha
   have hm := hat (x := m) (by simp [opsOf, Op.operands, Call.operands])
   split
   ·rename_i id he
    rw [he] at hm
    rw [hm id (by simp [TV.ids])]
   ·rfl
  ·rfl
 | _ => rfl
theorem azJ (h : iY o ev L L' R) : needs ev L o.op = needs ev L' o.op := by
 have hat := @iY.at _ _ _ _ _ h
 generalize o.op = op at hat
 cases op with
 | store T p y =>
  have hp := hat (x := p) (by simp [opsOf, Op.operands])
  simp only [needs]
  split
  ·rename_i id i q he; rw [he] at hp; simp only [hp id (by simp [TV.ids])]
  ·rfl
 | load T p =>
  have hp := hat (x := p) (by simp [opsOf, Op.operands])
  simp only [needs]
  split
  ·rename_i id i he; rw [he] at hp; simp only [hp id (by simp [TV.ids])]
  ·rfl
 | slice T x lo hi mx =>
  have hp := hat (x := x) (by simp [opsOf, Op.operands])
  simp only [needs]
  split
  ·rename_i id he; rw [he] at hp; simp only [hp id (by simp [TV.ids])]
  ·rfl
 | _ => rfl
theorem wI {x : TV} {i : Nat} (h : i ∈ x.mV) : i ∈ x.ids := by
 cases x <;> first | exact h | simp [TV.mV] at h
theorem azI (h : iY o ev L L' R) : ∀ i ∈ needs ev L o.op, i ∈ R := by
 have hops := h.ops
 have hcl := h.cl
 generalize o.op = op at hops
 cases op with
 | buildSlice T n parts =>
  intro i hi
  simp only [needs, List.mem_flatMap] at hi
  obtain ⟨p, hp, hi⟩ := hi
  exact hops p.2 (by simp only [opsOf, Op.operands]; exact List.mem_map_of_mem hp) i (wI hi)
 | build T parts =>
  intro i hi
  simp only [needs, List.mem_flatMap] at hi
  obtain ⟨p, hp, hi⟩ := hi
  exact hops p.2 (by simp only [opsOf, Op.operands]; exact List.mem_map_of_mem hp) i (wI hi)
 | store T p y =>
  have hy := hops y (by simp [opsOf, Op.operands])
  intro i hi
  simp only [needs] at hi
  split at hi
  ·split at hi
   ·split at hi
    ·exact hy i (wI hi)
    ·simp at hi
   ·exact hy i (wI hi)
  ·simp at hi
 | load T p =>
  have hp := hops p (by simp [opsOf, Op.operands])
  intro i hi
  simp only [needs] at hi
  split at hi
  ·rename_i id j he
   rw [he] at hp
   split at hi
   ·rename_i fs hfs
    obtain ⟨x, hx, hi⟩ := List.mem_flatMap.1 hi
    exact hcl id (hp id (by simp [TV.ids])) _ hfs i (by simp only [TO.ids, List.mem_flatMap]; exact ⟨x, hx, wI hi⟩)
   ·simp at hi
  ·simp at hi
 | slice T x lo hg mx =>
  have hp := hops x (by simp [opsOf, Op.operands])
  intro i hi
  simp only [needs] at hi
  split at hi
  ·rename_i id he
   rw [he] at hp
   split at hi
   ·obtain rfl := List.mem_singleton.1 hi; exact hp i (by simp [TV.ids])
   ·simp at hi
  ·simp at hi
 | mapUpdate T m k y =>
  intro i hi
  simp only [needs, List.mem_append] at hi
  rcases hi with hi | hi
  ·exact hops k (by simp [opsOf, Op.operands]) i (wI hi)
  ·exact hops y (by simp [opsOf, Op.operands]) i (wI hi)
 | insert T m k y =>
  intro i hi
  simp only [needs, List.mem_append] at hi
  rcases hi with hi | hi
  ·exact hops k (by simp [opsOf, Op.operands]) i (wI hi)
  ·exact hops y (by simp [opsOf, Op.operands]) i (wI hi)
 | _ => intro i hi; simp [needs] at hi
theorem ac9 {ids : List Nat} (h : ∀ i ∈ ids, L i = L' i) : iH L ids = iH L' ids := by
 unfold iH
 induction ids with
 | nil => rfl
 | cons i r ih =>
  simp only [List.filterMap_cons, h i (by simp)]
  rw [ih fun j hj => h j (by simp [hj])]
theorem ag' {U : List (Nat × TO)} (h : iY o ev L L' R) (hU : ∀ i ob, aA U i = some ob -> ob.ids = []) : iY o ev (eQ U L) (eQ U L') R :=
 ⟨h.ops, fun i hi ob hob j hj => by
  simp only [eQ] at hob
  cases hu : aA U i with
  | some o' => rw [hu] at hob; obtain rfl := aB hob; rw [hU i _ hu] at hj; simp at hj
  | none => rw [hu] at hob; exact h.cl i hi ob hob j hj, h.dst, fun i hi => by simp only [eQ, h.eq i hi]⟩
theorem ac8 {ids : List Nat} : ∀ i ob, aA (iH L ids) i = some ob -> ob.ids = [] := fun i ob h => by
 obtain ⟨o0, _, h2⟩ := PR h
 obtain ⟨⟨t, l, _, rfl⟩ | ⟨t, ls, _, rfl⟩, _⟩ := ac7 h2 <;> rfl
theorem ajI {L : aZ} {id : Nat} {U : List (Nat × TO)} (h : wL L id = some U) : ∀ p ∈ U, p.2.ids = [] := by
 unfold wL at h
 split at h
 ·split at h
  ·obtain rfl := aB h; intro p hp; cases hp
  ·split at h
   ·split at h
    ·obtain rfl := aB h
     intro p hp
     simp only [List.mem_cons, List.not_mem_nil, or_false] at hp
     rcases hp with rfl | rfl <;> rfl
    ·cases h
   ·cases h
 ·cases h
theorem ajJ {R : List Nat} (hcl : ∀ i ∈ R, ∀ ob, L i = some ob -> ∀ j ∈ ob.ids, j ∈ R) (heq : ∀ i ∈ R, L i = L' i) {id : Nat} (hid : id ∈ R) : wL L id = wL L' id := by
 unfold wL
 rw [<- heq id hid]
 cases ho : L id with
 | none => rfl
 | some ob => cases ob with
  | aX t ls out => cases out with
   | none => rfl
   | some p =>
    have := heq p.2 (hcl id hid _ ho p.2 (by simp [TO.ids]))
    simp only [this]
  | _ => rfl
theorem Vb {L : aZ} : ∀ {ids : List Nat}, ∀ p ∈ kZ L ids, p.2.ids = []
 | [], p, h => by cases h
 | id :: r, p, h => by
  simp only [kZ, List.mem_append] at h
  rcases h with h | h
  ·cases hU : wL (eQ (kZ L r) L) id with
   | none => rw [hU] at h; cases h
   | some U => rw [hU] at h; exact ajI hU p h
  ·exact Vb p h
theorem Pm {U : List (Nat × TO)} (h : ∀ p ∈ U, p.2.ids = []) : ∀ i ob, aA U i = some ob -> ob.ids = [] := fun i ob ho => h (i, ob) (uG ho)
theorem ajH {R : List Nat} (hcl : ∀ i ∈ R, ∀ ob, L i = some ob -> ∀ j ∈ ob.ids, j ∈ R) (heq : ∀ i ∈ R, L i = L' i) : ∀ {ids : List Nat}, (∀ i ∈ ids, i ∈ R) -> kZ L ids = kZ L' ids
 | [], _ => rfl
 | id :: r, h => by
  have ih := ajH hcl heq (ids := r) fun i hi => h i (by simp [hi])
  simp only [kZ]
  rw [ih]
  have hU : ∀ i ob, aA (kZ L' r) i = some ob -> ob.ids = [] := Pm Vb
  rw [ajJ (L := eQ (kZ L' r) L) (L' := eQ (kZ L' r) L') (R := R) (fun i hi ob hob j hj => by
   simp only [eQ] at hob
   cases hu : aA (kZ L' r) i with
   | some o' => rw [hu] at hob; obtain rfl := aB hob; rw [hU i _ hu] at hj; simp at hj
   | none => rw [hu] at hob; exact hcl i hi ob hob j hj) (fun i hi => by simp only [eQ, heq i hi]) (h id (by simp))]
theorem Ha (h : iY o ev L L' R) (TI : Nat -> TD) (TY : Nat -> DT) (fz : Nat -> Bool) : iM TI TY fz ev L o.dst o.op = iM TI TY fz ev L' o.dst o.op := by
 have hat := @iY.at _ _ _ _ _ h
 have hdst : ∀ d, o.dst = some d -> L d = L' d := fun d hd => h.eq d (h.dst d hd).1
 generalize o.op = op at hat
 generalize o.dst = dst at hdst
 cases op with
 | makeSlice T l c =>
  simp only [iM]
  split
  ·rename_i d k1 zl k2 zc t _ _ _
   rw [hdst d rfl]
  ·rfl
 | indexAddr T x ix =>
  have hx := hat (x := x) (by simp [opsOf, Op.operands])
  simp only [iM]
  split
  ·rename_i id k z he _
   rw [he] at hx
   rw [hx id (by simp [TV.ids])]
  ·rfl
 | load T p =>
  have hx := hat (x := p) (by simp [opsOf, Op.operands])
  simp only [iM]
  split
  ·rename_i d id i he
   rw [he] at hx
   rw [hx id (by simp [TV.ids]), hdst d rfl]
  ·rfl
 | store T p y =>
  have hx := hat (x := p) (by simp [opsOf, Op.operands])
  have hy := hat (x := y) (by simp [opsOf, Op.operands])
  simp only [iM]
  split
  ·rename_i id i r he he2
   rw [he] at hx
   rw [he2] at hy
   rw [hx id (by simp [TV.ids]), hy r (by simp [TV.ids])]
  ·rfl
 | buildSlice T n parts =>
  simp only [iM]
  split
  ·rename_i d t x _ hp
   have hmem : ((0, x) : Nat × Operand) ∈ parts.toList := by rw [hp]; simp
   have hx := hat (x := x) (by simp only [opsOf, Op.operands]; exact List.mem_map_of_mem hmem)
   rw [hdst d rfl]
   split
   ·split
    ·rename_i r _ he
     rw [he] at hx
     rw [hx r (by simp [TV.ids])]
    ·rfl
   ·rfl
  ·rfl
 | call cl =>
  obtain ⟨callee, args, ats⟩ := cl
  simp only [iM]
  split
  ·rename_i d x y T T' hxs hts
   have ha : args = #[x, y] := by apply Array.ext'; simpa using hxs
   subst ha
   have hx := hat (x := x) (by simp [opsOf, Op.operands, Call.operands])
   have hy := hat (x := y) (by simp [opsOf, Op.operands, Call.operands])
   split
   ·split
    ·rename_i m he
     rw [he] at hy
     rw [hy m (by simp [TV.ids]), hdst d rfl]
     split
     ·split
      ·rfl
      ·rename_i id he2
       rw [he2] at hx
       rw [hx id (by simp [TV.ids])]
      ·rfl
     ·rfl
    ·rfl
   ·rfl
  ·rename_i x T hxs hts
   have ha : args = #[x] := by apply Array.ext'; simpa using hxs
   subst ha
   have hx := hat (x := x) (by simp [opsOf, Op.operands, Call.operands])
   split
   ·rename_i id he
    rw [he] at hx
    rw [hx id (by simp [TV.ids])]
   ·rfl
  ·rfl
 | _ => rfl
theorem aDG (h : iY o ev L L' R) (TI : Nat -> TD) : zU TI ev L o.dst o.op = zU TI ev L' o.dst o.op := by
 have hat := @iY.at _ _ _ _ _ h
 have hops := h.ops
 have hcl := h.cl
 have heq := h.eq
 generalize o.op = op at hat hops
 generalize o.dst = dst
 cases op with
 | store T p y =>
  have hx := hat (x := p) (by simp [opsOf, Op.operands])
  have hp := hops p (by simp [opsOf, Op.operands])
  have hy := hat (x := y) (by simp [opsOf, Op.operands])
  simp only [zU]
  split
  ·rename_i id i r he he2
   rw [he] at hx hp
   rw [he2] at hy
   have hid : id ∈ R := hp id (by simp [TV.ids])
   rw [<- hy r (by simp [TV.ids]), <- hx id (by simp [TV.ids])]
   cases ho : L id with
   | none => rfl
   | some ob => cases ob with
    | aX t ls out => cases out with
     | none => rfl
     | some q =>
      obtain ⟨j, r0⟩ := q
      have := heq r0 (hcl id hid _ ho r0 (by simp [TO.ids]))
      cases hr : L r with
      | none => rfl
      | some ob2 => cases ob2 with
       | row t' l => simp only [this]
       | _ => rfl
    | _ => rfl
  ·rfl
 | _ => rfl
theorem ay4 {x : TV} (h : ∀ i ∈ x.ids, L i = L' i) : x.pM L = x.pM L' := by
 cases x with
 | row id => simp only [TV.pM, h id (by simp [TV.ids])]
 | ptr id i p => cases p with
  | nil => simp only [TV.pM, h id (by simp [TV.ids])]
  | cons j p => rfl
 | _ => rfl
theorem ay3 {x : TV} {i : Nat} (h : i ∈ x.pM L) : i ∈ x.ids := by
 cases x with
 | row id =>
  simp only [TV.pM] at h
  split at h
  ·simpa [TV.ids] using h
  ·cases h
 | ptr id k p => cases p with
  | nil =>
   simp only [TV.pM] at h
   split at h
   ·simpa [TV.ids] using h
   ·cases h
  | cons j p => cases h
 | _ => cases h
theorem aFG (h : iY o ev L L' R) (TI : Nat -> TD) (TY : Nat -> DT) (fz : Nat -> Bool) : CO TI TY fz ev L o.dst o.op = CO TI TY fz ev L' o.dst o.op := by
 unfold CO
 rw [aDG h]
 have hat := @iY.at _ _ _ _ _ h
 have e : (o.op.operands.toList.flatMap fun x => (ev x).pM L) = o.op.operands.toList.flatMap fun x => (ev x).pM L' := by
  have : ∀ (l : List Operand), (∀ x ∈ l, x ∈ opsOf o.op) -> (l.flatMap fun x => (ev x).pM L) = l.flatMap fun x => (ev x).pM L' := by
   intro l
   induction l with
   | nil => intro _; rfl
   | cons x l ih => intro hl; simp only [List.flatMap_cons, ay4 (hat (hl x (by simp))), ih fun y hy => hl y (by simp [hy])]
  exact this _ fun x hx => hx
 have hin : ∀ i ∈ (o.op.operands.toList.flatMap fun x => (ev x).pM L), i ∈ R := fun i hi => by
  obtain ⟨x, hx, hi⟩ := List.mem_flatMap.1 hi
  exact h.ops x hx i (ay3 hi)
 rw [<- e]
 split
 ·rfl
 ·split
  ·exact Ha h TI TY fz
  split
  ·exact Ha h TI TY fz
  ·rename_i id hl
   rw [hl] at hin
   rw [<- ajJ h.cl h.eq (hin id (by simp))]
   split
   ·rename_i U hU
    have h3 : iY o ev (Eu U L) (Eu U L') R := ag' h (Pm (ajI hU))
    rw [Ha h3]
   ·rfl
  ·rfl
theorem aFE (h : iY o ev L L' R) (E : Env) : EO E ev L o.dst o.op = EO E ev L' o.dst o.op := by
 have key := Ha h E.TI E.TY E.fz
 unfold EO
 split
 ·rename_i he hd
  rw [he, hd] at key
  rw [key]
 ·rename_i he hd
  rw [he, hd] at key
  rw [key]
 ·rfl
theorem arL (h : iY o ev L L' R) (E : Env) : xO E o ev L = xO E o ev L' := by
 unfold xO
 have h1 := azJ h
 have h2 := ac9 (L := L) (L' := L') (ids := needs ev L o.op) fun i hi => h.eq i (azI h i hi)
 rw [h1] at h2
 simp only [aFS h, h1, h2]
 have h3 : iY o ev (eQ (iH L' (needs ev L' o.op)) L) (eQ (iH L' (needs ev L' o.op)) L') R := ag' h ac8
 rw [aFZ h3, aFJ h3, aDM h3, aFN h3, aFB h3, aFV h3, aFE h, aFG h]
end
end
section
section
variable {ev ev' : Operand -> TV} {L : aZ}
theorem aaJ {t : DT} : ∀ {xs : List Operand}, (∀ x ∈ xs, ev x = ev' x) -> xI ev L t xs = xI ev' L t xs
 | [], _ => rfl
 | x :: r, h => by simp only [xI, h x (by simp), aaJ (xs := r) fun y hy => h y (by simp [hy])]
theorem aj1 {t : DT} {d : TD} : ∀ {xs : List (Nat × Operand)} {z : t.den}, (∀ x ∈ xs, ev x.2 = ev' x.2) -> yC ev L t d xs z = yC ev' L t d xs z
 | [], z, _ => rfl
 | (i, x) :: r, z, h => by
  have e : ev x = ev' x := h (i, x) (by simp)
  simp only [yC, e]
  split
  ·split
   ·split
    ·rw [aj1 (xs := r) fun y hy => h y (by simp [hy])]
    ·rfl
   ·rfl
  ·rfl
theorem GM {o : Option Operand} (h : ∀ x ∈ o.toList, ev x = ev' x) : jD ev o = jD ev' o := by
 cases o with
 | none => rfl
 | some x => simp only [jD, h x (by simp)]
theorem aFY (TI : Nat -> TD) {op : Op} (h : ∀ x ∈ opsOf op, ev x = ev' x) : gU TI ev L op = gU TI ev' L op := by
 cases op with
 | call c =>
  obtain ⟨callee, args, ats⟩ := c
  simp only [gU]
  split
  ·rename_i x T hx ht
   have ha : args = #[x] := by apply Array.ext'; simpa using hx
   subst ha
   rw [h x (by simp [opsOf, Op.operands, Call.operands])]
  ·rfl
 | makeFunc fn first caps =>
  have e : (first ++ caps).toList.map ev = (first ++ caps).toList.map ev' := List.map_congr_left fun x hx => h x hx
  simp only [gU, e]
 | move x => simp only [gU, h x (by simp [opsOf, Op.operands])]
 | assign x => simp only [gU, h x (by simp [opsOf, Op.operands])]
 | nilCheck x => simp only [gU, h x (by simp [opsOf, Op.operands])]
 | binOp op t x y u => simp only [gU, h x (by simp [opsOf, Op.operands]), h y (by simp [opsOf, Op.operands])]
 | unOp op t x => simp only [gU, h x (by simp [opsOf, Op.operands])]
 | convert s d x => simp only [gU, h x (by simp [opsOf, Op.operands])]
 | extract x i => simp only [gU, h x (by simp [opsOf, Op.operands])]
 | load T x => simp only [gU, h x (by simp [opsOf, Op.operands])]
 | indexAddr T x y => simp only [gU, h x (by simp [opsOf, Op.operands]), h y (by simp [opsOf, Op.operands])]
 | fieldAddr T x y => simp only [gU, h x (by simp [opsOf, Op.operands])]
 | index T x y => simp only [gU, h x (by simp [opsOf, Op.operands]), h y (by simp [opsOf, Op.operands])]
 | _ => rfl
theorem aFI (TI : Nat -> TD) (TY : Nat -> DT) {op : Op} (h : ∀ x ∈ opsOf op, ev x = ev' x) : lL TI TY ev L op = lL TI TY ev' L op := by
 cases op with
 | slice T x lo hi mx =>
  have h1 : jD ev lo = jD ev' lo := GM fun y hy => h y (by simp [opsOf, Op.operands] at hy ⊢; simp [hy])
  have h2 : jD ev hi = jD ev' hi := GM fun y hy => h y (by simp [opsOf, Op.operands] at hy ⊢; simp [hy])
  have h3 : jD ev mx = jD ev' mx := GM fun y hy => h y (by simp [opsOf, Op.operands] at hy ⊢; simp [hy])
  simp only [lL, h1, h2, h3, h x (by simp [opsOf, Op.operands])]
 | load T x => simp only [lL, h x (by simp [opsOf, Op.operands])]
 | makeInterface T x => simp only [lL, h x (by simp [opsOf, Op.operands])]
 | nilCheck x => simp only [lL, h x (by simp [opsOf, Op.operands])]
 | fieldAddr T x i => simp only [lL, h x (by simp [opsOf, Op.operands])]
 | binOp op T x y yt => simp only [lL, h x (by simp [opsOf, Op.operands]), h y (by simp [opsOf, Op.operands])]
 | typeAssert x X T ok =>
  cases ok with
  | false => rfl
  | true => simp only [lL, h x (by simp [opsOf, Op.operands])]
 | _ => rfl
theorem aDC (TI : Nat -> TD) (TY : Nat -> DT) (d T : Nat) (x y : TV) : I4 TI TY ev L d T x y = I4 TI TY ev' L d T x y := rfl
theorem aFM (TI : Nat -> TD) (TY : Nat -> DT) (rc : Nat -> Option (List (Option DT))) {dst : Option Nat} {op : Op} (h : ∀ x ∈ opsOf op, ev x = ev' x) : iW TI TY rc ev L dst op = iW TI TY rc ev' L dst op := by
 cases op with
 | call c =>
  obtain ⟨callee, args, ats⟩ := c
  simp only [iW]
  split
  ·rename_i x y T T' hx ht
   have ha : args = #[x, y] := by apply Array.ext'; simpa using hx
   subst ha
   rw [h x (by simp [opsOf, Op.operands, Call.operands]), h y (by simp [opsOf, Op.operands, Call.operands]), aDC (ev' := ev')]
  ·rfl
 | box T x => simp only [iW, h x (by simp [opsOf, Op.operands])]
 | buildSlice T n parts =>
  simp only [iW]
  split
  ·rw [aaJ (ev' := ev') fun x hx => h x (by simpa [opsOf, Op.operands] using hx)]
  ·rfl
 | makeSlice T x y => simp only [iW, h x (by simp [opsOf, Op.operands]), h y (by simp [opsOf, Op.operands])]
 | build T parts =>
  simp only [iW]
  rw [aj1 (ev' := ev') fun x hx => h x.2 (by simp only [opsOf, Op.operands]; exact List.mem_map_of_mem hx)]
 | store T x y => simp only [iW, h x (by simp [opsOf, Op.operands]), h y (by simp [opsOf, Op.operands])]
 | _ => rfl
theorem aDL (E : Env) {dst : Option Nat} {op : Op} (h : ∀ x ∈ opsOf op, ev x = ev' x) : oQ E ev L dst op = oQ E ev' L dst op := by
 cases op with
 | call c =>
  obtain ⟨callee, args, ats⟩ := c
  simp only [oQ]
  split
  ·rename_i x y T T' hx ht
   have ha : args = #[x, y] := by apply Array.ext'; simpa using hx
   subst ha
   rw [h x (by simp [opsOf, Op.operands, Call.operands]), h y (by simp [opsOf, Op.operands, Call.operands])]
  ·rfl
 | box T x => simp only [oQ, h x (by simp [opsOf, Op.operands])]
 | assign x => simp only [oQ, h x (by simp [opsOf, Op.operands])]
 | slice T x lo hi mx =>
  have h0 : ev x = ev' x := h x (by simp [opsOf, Op.operands])
  have h1 : jD ev lo = jD ev' lo := GM fun y hy => h y (by simp [opsOf, Op.operands] at hy ⊢; simp [hy])
  have h2 : jD ev hi = jD ev' hi := GM fun y hy => h y (by simp [opsOf, Op.operands] at hy ⊢; simp [hy])
  simp only [oQ, QX, h0, h1, h2]
 | _ => rfl
theorem aFA (TI : Nat -> TD) {dst : Option Nat} {op : Op} (h : ∀ x ∈ opsOf op, ev x = ev' x) : jL TI ev L dst op = jL TI ev' L dst op := by
 cases op with
 | makeMap T r =>
  cases r with
  | none => rfl
  | some x => simp only [jL, h x (by simp [opsOf, Op.operands])]
 | range T m => simp only [jL, h m (by simp [opsOf, Op.operands])]
 | entry x => simp only [jL, h x (by simp [opsOf, Op.operands])]
 | lookup T m ix ok => simp only [jL, h m (by simp [opsOf, Op.operands]), h ix (by simp [opsOf, Op.operands])]
 | mapUpdate T m k y => simp only [jL, h m (by simp [opsOf, Op.operands]), h k (by simp [opsOf, Op.operands]), h y (by simp [opsOf, Op.operands])]
 | insert T m k y => simp only [jL, h m (by simp [opsOf, Op.operands]), h k (by simp [opsOf, Op.operands]), h y (by simp [opsOf, Op.operands])]
 | binOp op T x y yt => simp only [jL, h x (by simp [opsOf, Op.operands]), h y (by simp [opsOf, Op.operands])]
 | call c =>
  obtain ⟨callee, args, ats⟩ := c
  simp only [jL]
  split
  ·rename_i x y hx
   have ha : args = #[x, y] := by apply Array.ext'; simpa using hx
   subst ha
   rw [h x (by simp [opsOf, Op.operands, Call.operands]), h y (by simp [opsOf, Op.operands, Call.operands])]
  ·rename_i x y hx
   have ha : args = #[x, y] := by apply Array.ext'; simpa using hx
   subst ha
   rw [h x (by simp [opsOf, Op.operands, Call.operands]), h y (by simp [opsOf, Op.operands, Call.operands])]
  ·rename_i x y hx
   have ha : args = #[x, y] := by apply Array.ext'; simpa using hx
   subst ha
   rw [h x (by simp [opsOf, Op.operands, Call.operands]), h y (by simp [opsOf, Op.operands, Call.operands])]
  ·rfl
 | _ => rfl
theorem akE {d : TD} : ∀ {r : List (Nat × Operand)} {l : List TV}, (∀ x ∈ r, ev x.2 = ev' x.2) -> yD ev L d r l = yD ev' L d r l
 | [], l, _ => rfl
 | (i, x) :: r, l, h => by
  have e : ev x = ev' x := h (i, x) (by simp)
  simp only [yD, e]
  split
  ·split
   ·exact akE fun y hy => h y (by simp [hy])
   ·rfl
  ·rfl
theorem akB {d : TD} : ∀ {r : List (Nat × Operand)} {l : List TV}, (∀ x ∈ r, ev x.2 = ev' x.2) -> yE ev L d r l = yE ev' L d r l
 | [], l, _ => rfl
 | (i, x) :: r, l, h => by
  have e : ev x = ev' x := h (i, x) (by simp)
  simp only [yE, e]
  split
  ·split
   ·split
    ·split
     ·exact akB fun y hy => h y (by simp [hy])
     ·rfl
    ·rfl
   ·rfl
  ·rfl
theorem aFO {d : TD} {r : List (Nat × Operand)} {l : List TV} (h : ∀ x ∈ r, ev x.2 = ev' x.2) : CQ ev L d r l = CQ ev' L d r l := by
 unfold CQ; rw [akE h, akB h]
theorem aFR (TI : Nat -> TD) (TY : Nat -> DT) (rc : Nat -> Option (List (Option DT))) {dst : Option Nat} {op : Op} (h : ∀ x ∈ opsOf op, ev x = ev' x) : tst TI TY rc ev L dst op = tst TI TY rc ev' L dst op := by
 cases op with
 | build T parts =>
  simp only [tst]
  split
  ·split
   ·rw [aFO (ev' := ev') fun x hx => h x.2 (by simp only [opsOf, Op.operands]; exact List.mem_map_of_mem hx)]
   ·rfl
  ·rfl
 | store T x y => simp only [tst, h x (by simp [opsOf, Op.operands]), h y (by simp [opsOf, Op.operands])]
 | buildSlice T n parts =>
  have e : (parts.toList.map fun p => ev p.2) = parts.toList.map fun p => ev' p.2 := List.map_congr_left fun p hp => h p.2 (by simp only [opsOf, Op.operands]; exact List.mem_map_of_mem hp)
  simp only [tst, e]
 | load T x => simp only [tst, h x (by simp [opsOf, Op.operands])]
 | box T x => simp only [tst, h x (by simp [opsOf, Op.operands])]
 | slice T x lo hi mx =>
  have h0 : ev x = ev' x := h x (by simp [opsOf, Op.operands])
  have h1 : jD ev lo = jD ev' lo := GM fun y hy => h y (by simp [opsOf, Op.operands] at hy ⊢; simp [hy])
  have h2 : jD ev hi = jD ev' hi := GM fun y hy => h y (by simp [opsOf, Op.operands] at hy ⊢; simp [hy])
  simp only [tst, h0, h1, h2]
 | call c =>
  obtain ⟨callee, args, ats⟩ := c
  simp only [tst]
  split
  ·rename_i x T hx ht
   have ha : args = #[x] := by apply Array.ext'; simpa using hx
   subst ha
   rw [h x (by simp [opsOf, Op.operands, Call.operands])]
  ·rename_i x y T T' hx ht
   have ha : args = #[x, y] := by apply Array.ext'; simpa using hx
   subst ha
   rw [h x (by simp [opsOf, Op.operands, Call.operands]), h y (by simp [opsOf, Op.operands, Call.operands])]
  ·rename_i x T hx ht
   have ha : args = #[x] := by apply Array.ext'; simpa using hx
   subst ha
   rw [h x (by simp [opsOf, Op.operands, Call.operands])]
  ·rename_i x T hx ht
   have ha : args = #[x] := by apply Array.ext'; simpa using hx
   subst ha
   rw [h x (by simp [opsOf, Op.operands, Call.operands])]
  ·rfl
 | indexAddr T x y => simp only [tst, h x (by simp [opsOf, Op.operands]), h y (by simp [opsOf, Op.operands])]
 | _ => rfl
theorem aFU (TI : Nat -> TD) {dst : Option Nat} {op : Op} (h : ∀ x ∈ opsOf op, ev x = ev' x) : pX TI ev L dst op = pX TI ev' L dst op := by
 cases op with
 | convert S T x => simp only [pX, h x (by simp [opsOf, Op.operands])]
 | range T x => simp only [pX, h x (by simp [opsOf, Op.operands])]
 | call c =>
  obtain ⟨callee, args, ats⟩ := c
  simp only [pX]
  split
  ·rename_i m k T r hxs hts
   have ha : args = #[m, k] := by apply Array.ext'; simpa using hxs
   subst ha
   rw [h m (by simp [opsOf, Op.operands, Call.operands]), h k (by simp [opsOf, Op.operands, Call.operands])]
  ·rename_i m T r hxs hts
   have ha : args = #[m] := by apply Array.ext'; simpa using hxs
   subst ha
   rw [h m (by simp [opsOf, Op.operands, Call.operands])]
  ·rfl
 | _ => rfl
theorem azH {op : Op} (h : ∀ x ∈ opsOf op, ev x = ev' x) : needs ev L op = needs ev' L op := by
 cases op with
 | buildSlice T n parts => simp only [needs, List.flatMap]; exact congrArg _ (List.map_congr_left fun p hp => by rw [h p.2 (by simp only [opsOf, Op.operands]; exact List.mem_map_of_mem hp)])
 | build T parts => simp only [needs, List.flatMap]; exact congrArg _ (List.map_congr_left fun p hp => by rw [h p.2 (by simp only [opsOf, Op.operands]; exact List.mem_map_of_mem hp)])
 | store T x y => simp only [needs, h x (by simp [opsOf, Op.operands]), h y (by simp [opsOf, Op.operands])]
 | load T x => simp only [needs, h x (by simp [opsOf, Op.operands])]
 | mapUpdate T m k y => simp only [needs, h k (by simp [opsOf, Op.operands]), h y (by simp [opsOf, Op.operands])]
 | insert T m k y => simp only [needs, h k (by simp [opsOf, Op.operands]), h y (by simp [opsOf, Op.operands])]
 | slice T x lo hi mx => simp only [needs, h x (by simp [opsOf, Op.operands])]
 | _ => rfl
theorem Vm (TI : Nat -> TD) (TY : Nat -> DT) (fz : Nat -> Bool) {dst : Option Nat} {op : Op} (h : ∀ x ∈ opsOf op, ev x = ev' x) : iM TI TY fz ev L dst op = iM TI TY fz ev' L dst op := by
 cases op with
 | makeSlice T l c => simp only [iM, h l (by simp [opsOf, Op.operands]), h c (by simp [opsOf, Op.operands])]
 | indexAddr T x y => simp only [iM, h x (by simp [opsOf, Op.operands]), h y (by simp [opsOf, Op.operands])]
 | load T x => simp only [iM, h x (by simp [opsOf, Op.operands])]
 | store T x y => simp only [iM, h x (by simp [opsOf, Op.operands]), h y (by simp [opsOf, Op.operands])]
 | buildSlice T n parts =>
  simp only [iM]
  split
  ·rename_i d t x _ hp
   have hmem : ((0, x) : Nat × Operand) ∈ parts.toList := by rw [hp]; simp
   rw [h x (by simp only [opsOf, Op.operands]; exact List.mem_map_of_mem hmem)]
  ·rfl
 | call c =>
  obtain ⟨callee, args, ats⟩ := c
  simp only [iM]
  split
  ·rename_i d x y T T' hx _
   have ha : args = #[x, y] := by apply Array.ext'; simpa using hx
   subst ha
   rw [h x (by simp [opsOf, Op.operands, Call.operands]), h y (by simp [opsOf, Op.operands, Call.operands])]
  ·rename_i x T hx _
   have ha : args = #[x] := by apply Array.ext'; simpa using hx
   subst ha
   rw [h x (by simp [opsOf, Op.operands, Call.operands])]
  ·rfl
 | _ => rfl
theorem aDF (TI : Nat -> TD) {dst : Option Nat} {op : Op} (h : ∀ x ∈ opsOf op, ev x = ev' x) : zU TI ev L dst op = zU TI ev' L dst op := by
 cases op with
 | store T x y => simp only [zU, h x (by simp [opsOf, Op.operands]), h y (by simp [opsOf, Op.operands])]
 | _ => rfl
theorem aFF (TI : Nat -> TD) (TY : Nat -> DT) (fz : Nat -> Bool) {dst : Option Nat} {op : Op} (h : ∀ x ∈ opsOf op, ev x = ev' x) : CO TI TY fz ev L dst op = CO TI TY fz ev' L dst op := by
 unfold CO
 have e : (op.operands.toList.flatMap fun x => (ev x).pM L) = op.operands.toList.flatMap fun x => (ev' x).pM L := by
  have : ∀ (l : List Operand), (∀ x ∈ l, x ∈ opsOf op) -> (l.flatMap fun x => (ev x).pM L) = l.flatMap fun x => (ev' x).pM L := by
   intro l
   induction l with
   | nil => intro _; rfl
   | cons x l ih => intro hl; simp only [List.flatMap_cons, h x (hl x (by simp)), ih fun y hy => hl y (by simp [hy])]
  exact this _ fun x hx => hx
 rw [aDF TI h, e]
 simp only [fun L => Vm (L := L) TI TY fz (dst := dst) h]
theorem aFD (E : Env) {dst : Option Nat} {op : Op} (h : ∀ x ∈ opsOf op, ev x = ev' x) : EO E ev L dst op = EO E ev' L dst op := by
 unfold EO
 split
 ·rw [Vm E.TI E.TY E.fz h]
 ·rw [Vm E.TI E.TY E.fz h]
 ·rfl
theorem arK (E : Env) {o : Oper} (h : ∀ x ∈ opsOf o.op, ev x = ev' x) : xO E o ev L = xO E o ev' L := by
 unfold xO
 rw [azH h, aFR E.TI E.TY E.rc h]
 simp only [aFY E.TI h, aFI E.TI E.TY h, aDL E h, aFM E.TI E.TY E.rc h, aFA E.TI h, aFU E.TI h, aFD E h, aFF E.TI E.TY E.fz h]
theorem arN {α : Type} (E : Env) {o : Oper} (h : ∀ x ∈ opsOf o.op, ev x = ev' x) (k : Eff -> Option α) : eff E o ev L k = eff E o ev' L k := by
 obtain ⟨dst, op, ty, pos, after, g⟩ := o
 unfold eff
 rw [arK E h]
 split
 ·rfl
 ·simp only
  cases op with
  | pick c x y => simp only [h c (by simp [opsOf, Op.operands]), h x (by simp [opsOf, Op.operands]), h y (by simp [opsOf, Op.operands])]
  | next x is => cases is with
   | false => rfl
   | true => simp only [h x (by simp [opsOf, Op.operands])]
  | call c =>
   obtain ⟨callee, args, ats⟩ := c
   cases callee with
   | value x =>
    have e : args.toList.map ev = args.toList.map ev' := List.map_congr_left fun y hy => h y (by simp [opsOf, Op.operands, Call.operands]; exact .inr (by simpa using hy))
    simp only [h x (by simp [opsOf, Op.operands, Call.operands]), e]
   | invoke x name =>
    have e : args.toList.map ev = args.toList.map ev' := List.map_congr_left fun y hy => h y (by simp [opsOf, Op.operands, Call.operands]; exact .inr (by simpa using hy))
    simp only [h x (by simp [opsOf, Op.operands, Call.operands]), e]
   | _ => rfl
  | _ => rfl
end
structure JI (L L' : aZ) (R : List Nat) : Prop where
 cl : ∀ i ∈ R, ∀ ob, L i = some ob -> ∀ j ∈ ob.ids, j ∈ R
 eq : ∀ i ∈ R, L i = L' i
section
variable {L L' : aZ} {R : List Nat}
theorem JI.eQ {U : List (Nat × TO)} (h : JI L L' R) (hU : ∀ i ob, aA U i = some ob -> ob.ids = []) : JI (eQ U L) (Go.Proofs.YtfopcfnggdonkaaGreatDoor.eQ U L') R :=
 ⟨fun i hi ob hob j hj => by
  simp only [Go.Proofs.YtfopcfnggdonkaaGreatDoor.eQ] at hob
  cases hu : aA U i with
  | some o' => rw [hu] at hob; obtain rfl := aB hob; rw [hU i _ hu] at hj; simp at hj
  | none => rw [hu] at hob; exact h.cl i hi ob hob j hj, fun i hi => by simp only [Go.Proofs.YtfopcfnggdonkaaGreatDoor.eQ, h.eq i hi]⟩
theorem Fz (h : JI L L' R) : ∀ (n : Nat) (todo acc : List Nat), (∀ i ∈ todo, i ∈ R) -> qV n L todo acc = qV n L' todo acc
 | 0, _, _, _ => by simp only [qV]
 | n + 1, [], acc, _ => by simp only [qV]
 | n + 1, i :: todo, acc, ht => by
  simp only [qV, <- h.eq i (ht i (by simp))]
  split
  ·exact Fz h n todo acc fun j hj => ht j (by simp [hj])
  ·cases ho : L i with
   | none => exact Fz h n todo acc fun j hj => ht j (by simp [hj])
   | some ob =>
    exact Fz h n _ _ fun j hj => by
     rcases List.mem_append.1 hj with q | q
     ·exact ht j (by simp [q])
     ·exact h.cl i (ht i (by simp)) ob ho j q
theorem Fv (h : JI L L' R) : ∀ (n : Nat) (todo acc : List Nat), (∀ i ∈ todo, i ∈ R) -> (∀ i ∈ acc, i ∈ R) -> ∀ i ∈ qV n L todo acc, i ∈ R
 | 0, _, acc, _, ha => by simp only [qV]; exact ha
 | n + 1, [], acc, _, ha => by simp only [qV]; exact ha
 | n + 1, i :: todo, acc, ht, ha => by
  simp only [qV]
  split
  ·exact Fv h n todo acc (fun j hj => ht j (by simp [hj])) ha
  ·cases ho : L i with
   | none => exact Fv h n todo acc (fun j hj => ht j (by simp [hj])) ha
   | some ob =>
    exact Fv h n _ _ (fun j hj => by
     rcases List.mem_append.1 hj with q | q
     ·exact ht j (by simp [q])
     ·exact h.cl i (ht i (by simp)) ob ho j q) fun j hj => by
      rcases List.mem_append.1 hj with q | q
      ·exact ha j q
      ·simp at q; subst q; exact ht j (by simp)
theorem axW {x : TV} (h : ∀ i ∈ x.ids, L i = L' i) : x.aJ L = x.aJ L' := by
 cases x with
 | view id i p k n a b => simp only [TV.aJ, h id (by simp [TV.ids])]
 | row id => simp only [TV.aJ, TV.DK h, h id (by simp [TV.ids])]
 | _ => simp only [TV.aJ]; rw [TV.DK h]
theorem axV {x : TV} (h : ∀ i ∈ x.ids, L i = L' i) (t : DT) : LC L x t = LC L' x t := by
 cases t <;> simp only [LC, axW h, TV.qG h]
theorem abE : ∀ {eG : List Md} {xs : List TV}, (∀ x ∈ xs, ∀ i ∈ x.ids, L i = L' i) -> pG L eG xs = pG L' eG xs
 | [], [], _ => rfl
 | m :: ms, x :: xs, h => by
  simp only [pG, abE (eG := ms) (xs := xs) fun y hy => h y (by simp [hy])]
  split
  ·cases m with
   | obj => rfl
   | aJ t => simp only [axV (h x (by simp))]
   | own t => simp only [TV.qG (h x (by simp))]
  ·rfl
 | [], _ :: _, _ => rfl
 | _ :: _, [], _ => rfl
theorem ahB : ∀ {eG : List Md} {xs : List TV}, ∀ i ∈ qU eG xs, ∃ x ∈ xs, i ∈ x.ids
 | [], _, i, h => by simp [qU] at h
 | m :: ms, [], i, h => by cases m <;> simp [qU] at h
 | m :: ms, x :: xs, i, h => by
  have ih := ahB (eG := ms) (xs := xs) i
  cases m with
  | own t =>
   simp only [qU, List.mem_append] at h
   rcases h with h | h
   ·exact ⟨x, by simp, wI h⟩
   ·obtain ⟨y, a, b⟩ := ih h; exact ⟨y, by simp [a], b⟩
  | obj => simp only [qU] at h; obtain ⟨y, a, b⟩ := ih h; exact ⟨y, by simp [a], b⟩
  | aJ t => simp only [qU] at h; obtain ⟨y, a, b⟩ := ih h; exact ⟨y, by simp [a], b⟩
theorem YR : ∀ {eG : List Md} {xs : List TV}, ∀ i ∈ rM eG xs, ∃ x ∈ xs, i ∈ x.ids
 | [], xs, i, h => by simp [rM] at h
 | m :: ms, [], i, h => by cases m <;> simp [rM] at h
 | m :: ms, x :: xs, i, h => by
  cases m with
  | obj =>
   simp only [rM] at h
   obtain ⟨y, a, b⟩ := YR i h
   exact ⟨y, by simp [a], b⟩
  | aJ t =>
   simp only [rM, List.mem_append] at h
   rcases h with h | h
   ·exact ⟨x, by simp, wI h⟩
   ·obtain ⟨y, a, b⟩ := YR i h
    exact ⟨y, by simp [a], b⟩
  | own t =>
   simp only [rM, List.mem_append] at h
   rcases h with h | h
   ·exact ⟨x, by simp, wI h⟩
   ·obtain ⟨y, a, b⟩ := YR i h
    exact ⟨y, by simp [a], b⟩
theorem agU : ∀ {eG : List Md} {xs : List TV}, ∀ i ∈ oN eG xs, ∃ x ∈ xs, i ∈ x.ids
 | [], _, i, h => by simp [oN] at h
 | m :: ms, [], i, h => by cases m <;> simp [oN] at h
 | m :: ms, x :: xs, i, h => by
  have ih := agU (eG := ms) (xs := xs) i
  cases m with
  | obj =>
   simp only [oN, List.mem_append] at h
   rcases h with h | h
   ·exact ⟨x, by simp, h⟩
   ·obtain ⟨y, a, b⟩ := ih h; exact ⟨y, by simp [a], b⟩
  | own t => simp only [oN] at h; obtain ⟨y, a, b⟩ := ih h; exact ⟨y, by simp [a], b⟩
  | aJ t => simp only [oN] at h; obtain ⟨y, a, b⟩ := ih h; exact ⟨y, by simp [a], b⟩
theorem aeY : ∀ {eG : List Md} {xs : List TV}, (∀ x ∈ xs, ∀ i ∈ x.ids, L i = L' i) -> rV L eG xs = rV L' eG xs
 | [], _, _ => by simp only [rV]
 | m :: ms, [], _ => by cases m <;> simp only [rV]
 | m :: ms, x :: xs, h => by
  have ih := aeY (eG := ms) (xs := xs) fun y hy => h y (by simp [hy])
  cases m with
  | aJ t =>
   simp only [rV, ih]
   congr 1
   exact List.filter_congr fun i hi => by rw [h x (by simp) i hi]
  | obj => simp only [rV, ih]
  | own t => simp only [rV, ih]
theorem aa0 {P : Program} {E : Env} (hE : mW P E) {d g : Nat} {xs : List TV} {e : Eff} (hx : ∀ x ∈ xs, ∀ i ∈ x.ids, i ∈ R) (h : JI L L' R) (hk : ∀ p ∈ e.u, L p.1 = L' p.1)
  (hd : ∀ (β : Type) (k' : Eff -> Option β), DI E d g xs L k' = k' e) (β : Type) (k' : Eff -> Option β) : DI E d g xs L' k' = k' e := by
 have h0 := hd Eff fun x => some x
 unfold DI at h0 ⊢
 cases hs : E.sig g xs with
 | none => rw [hs] at h0; cases h0
 | some eG =>
  rw [hs] at h0
  simp only at h0 ⊢
  have hown : ∀ i ∈ qU eG xs, i ∈ R := fun i hi => by obtain ⟨x, a, b⟩ := ahB i hi; exact hx x a i b
  have adV : ∀ i ∈ oN eG xs, i ∈ R := fun i hi => by obtain ⟨x, a, b⟩ := agU i hi; exact hx x a i b
  have hdat : ∀ i ∈ rM eG xs, i ∈ R := fun i hi => by obtain ⟨x, a, b⟩ := YR i hi; exact hx x a i b
  have hS : ∀ i ob, aA (kZ L (rM eG xs)) i = some ob -> ob.ids = [] := Pm Vb
  rw [<- ajH (L := L) (L' := L') h.cl h.eq hdat]
  have hv := h.eQ hS
  generalize kZ L (rM eG xs) = S0 at h0 hS hv ⊢
  rw [<- ac9 (L := eQ S0 L) (L' := eQ S0 L') fun i hi => hv.eq i (hown i hi)]
  have hU : ∀ i ob, aA (iH (eQ S0 L) (qU eG xs) ++ S0) i = some ob -> ob.ids = [] := fun i ob ho => by
   rw [EN] at ho
   simp only [eQ] at ho
   split at ho
   ·rename_i o' ho'
    obtain rfl := aB ho; exact ac8 i _ ho'
   ·exact hS i ob ho
  have h1 := h.eQ hU
  have hk1 : ∀ p ∈ e.u, eQ (iH (eQ S0 L) (qU eG xs) ++ S0) L p.1 = eQ (iH (eQ S0 L) (qU eG xs) ++ S0) L' p.1 := fun p hp => by simp only [eQ, hk p hp]
  generalize iH (eQ S0 L) (qU eG xs) ++ S0 = U0 at h0 h1 hk1 ⊢
  generalize eQ U0 L = L1 at h0 h1 hk1 ⊢
  generalize eQ U0 L' = L2 at h1 hk1 ⊢
  have hxe : ∀ x ∈ xs, ∀ i ∈ x.ids, L1 i = L2 i := fun x a i b => h1.eq i (hx x a i b)
  rw [<- abE hxe, <- Fz h1 60 (oN eG xs) [] adV, <- aeY hxe]
  cases hc : pG L1 eG xs with
  | none => rw [hc] at h0; cases h0
  | some q =>
   obtain ⟨as, b⟩ := q
   rw [hc] at h0
   simp only at h0 ⊢
   have hin := Fv h1 60 (oN eG xs) [] adV (fun i hi => by simp at hi)
   generalize qV 60 L1 (oN eG xs) [] = T at h0 hin ⊢
   split at h0
   ·rename_i hcond
    obtain ⟨hb, h0⟩ := FO h0
    subst hb
    obtain ⟨rv, O', g1, g2, _⟩ := hE _ _ _ _ _ _ h0
    simp only [aT, List.all_eq_true] at hcond
    obtain ⟨⟨⟨k1, k2⟩, k3⟩, k4⟩ := hcond
    rw [if_pos (by simp only [aT, List.all_eq_true]; exact ⟨⟨⟨fun i hi => by rw [<- h1.eq i (hin i hi)]; exact k1 i hi, k2⟩, k3⟩, k4⟩)]
    have hm : (T.map fun i => (lY T i, ((L1 i).getD .dead).ren (lY T))) = T.map fun i => (lY T i, ((L2 i).getD .dead).ren (lY T)) := List.map_congr_left fun i hi => by rw [h1.eq i (hin i hi)]
    rw [hm] at g2
    show E.phi _ _ _ _ = _
    rw [g2]
    split at g1
    ·rename_i hg
     obtain rfl := aB g1
     simp only [aT, List.all_eq_true] at hg
     obtain ⟨⟨q1, q2⟩, q3⟩ := hg
     rw [if_pos (by
      simp only [aT, List.all_eq_true]
      refine ⟨⟨q1, fun p hp => ?_⟩, q3⟩
      have hmem : (uB T d p.1, p.2.ren (uB T d)) ∈ nR (uB T d) O' ++ U0 := List.mem_append_left _ (by
       simp only [nR]; exact List.mem_map_of_mem (f := fun p => (uB T d p.1, p.2.ren (uB T d))) hp)
      rw [<- hk1 _ hmem]
      exact q2 p hp)]
    ·cases g1
   ·cases h0
theorem arP {P : Program} {E : Env} (hE : mW P E) {o : Oper} {ev : Operand -> TV} {e : Eff} (h : iY o ev L L' R) (hk : ∀ p ∈ e.u, L p.1 = L' p.1)
  (hd : ∀ (β : Type) (k' : Eff -> Option β), eff E o ev L k' = k' e) (β : Type) (k' : Eff -> Option β) : eff E o ev L' k' = k' e := by
 have hl := arL h E
 obtain ⟨dst, op, ty, pos, after, gd⟩ := o
 unfold eff at hd ⊢
 rw [<- hl]
 cases hn : xO E ⟨dst, op, ty, pos, after, gd⟩ ev L with
 | some e' => simp only [hn] at hd ⊢; exact hd β k'
 | none =>
  simp only [hn] at hd ⊢
  cases op with
  | pick c x y => exact hd β k'
  | next x is => cases is with
   | false => exact hd β k'
   | true =>
    simp only at hd ⊢
    have hox := h.ops x (by simp [opsOf, Op.operands])
    cases hv : ev x with
    | row id =>
     rw [hv] at hd hox
     simp only at hd ⊢
     rw [<- h.eq id (hox id (by simp [TV.ids]))]
     exact hd β k'
    | _ => rw [hv] at hd; exact hd β k'
  | call c =>
   obtain ⟨callee, args, ats⟩ := c
   cases callee with
   | value x =>
    simp only at hd ⊢
    have hox := h.ops x (by simp [opsOf, Op.operands, Call.operands])
    cases hv : ev x with
    | fn g k n f =>
     rw [hv] at hd hox
     simp only at hd ⊢
     refine aa0 hE (R := R) ?_ ⟨h.cl, h.eq⟩ hk hd β k'
     intro y hy i hi
     simp only [ZU, List.mem_append, List.mem_map, List.mem_range] at hy
     rcases hy with (⟨j, hj, rfl⟩ | ⟨z, hz, rfl⟩) | ⟨j, hj, rfl⟩
     ·exact hox i (by simp only [TV.ids, List.mem_flatMap, List.mem_range]; exact ⟨j, by omega, hi⟩)
     ·exact h.ops z (by simp [opsOf, Op.operands, Call.operands]; exact .inr (by simpa using hz)) i hi
     ·exact hox i (by simp only [TV.ids, List.mem_flatMap, List.mem_range]; exact ⟨k + j, by omega, hi⟩)
    | _ => rw [hv] at hd; have := hd Eff (fun x => some x); cases this
   | invoke x name =>
    simp only at hd ⊢
    cases hv : ev x with
    | dv u y =>
     rw [hv] at hd
     simp only at hd ⊢
     clear hv
     induction u with
     | dX T t u' _ ih =>
      cases y with
      | inr b => exact ih b hd
      | inl b =>
       simp only [KW, zC] at hd ⊢
       split
       ·rename_i ha; simp only [ha, if_true] at hd; have := hd Eff (fun x => some x); cases this
       ·rename_i ha
        simp only [ha] at hd
        cases hg : (E.TI T).xY.lookup name with
        | none => simp only [hg] at hd; have := hd Eff (fun x => some x); cases this
        | some g =>
         simp only [hg] at hd ⊢
         refine aa0 hE (R := R) ?_ ⟨h.cl, h.eq⟩ hk hd β k'
         intro z hz i hi
         rcases List.mem_cons.1 hz with rfl | hz
         ·simp [TV.ids] at hi
         ·obtain ⟨p, hp, rfl⟩ := List.mem_map.1 hz
          exact h.ops p (by simp [opsOf, Op.operands, Call.operands]; exact .inr (by simpa using hp)) i hi
     | _ => have := hd Eff (fun x => some x); cases this
    | _ => rw [hv] at hd; have := hd Eff (fun x => some x); cases this
   | _ => have := hd Eff (fun x => some x); cases this
  | _ => have := hd Eff (fun x => some x); cases this
end
end
section
structure Lb where
 i : Nat
 rd : List Nat
 e : Eff
def Lb.lab (l : Lb) : UK := ⟨l.i, l.rd, l.e.u.map (·.1)⟩
inductive Way (E : Env) (ops : Array Oper) (o : Oper) (s : TS) (e : Eff) : Prop
 | run (hg : o.guard = none) (hd : ∀ (β : Type) (k' : Eff -> Option β), eff E o s.ev (aA s.ob) k' = k' e)
 | want (j d : Nat) (g : Bool) (hg : o.guard = some (j, g)) (hd : (ops[j]?).bind (·.dst) = some d) (hs : s.sl[d]? = some (.dv .bool g)) (he : ∀ (β : Type) (k' : Eff -> Option β), eff E o s.ev (aA s.ob) k' = k' e)
 | pass (j d : Nat) (g t : Bool) (hg : o.guard = some (j, g)) (hd : (ops[j]?).bind (·.dst) = some d) (hs : s.sl[d]? = some (.dv .bool t)) (hne : t ≠ g) (he : e = ⟨.cst undef, [], true⟩)
 | skip (j d : Nat) (g : Bool) (xs : Array Value) (hg : o.guard = some (j, g)) (hd : (ops[j]?).bind (·.dst) = some d) (hs : s.sl[d]? = some (.cst (.tuple xs))) (he : e = ⟨.cst undef, [], true⟩)
structure DS (E : Env) (ops : Array Oper) (o : Oper) (s : TS) (l : Lb) : Prop where
 at_ : ops[l.i]? = some o
 opn : flat o.op = false -> ∀ x ∈ opsOf o.op, ∀ i ∈ (s.ev x).ids, i ∈ l.rd
 cl : flat o.op = false -> ∀ i ∈ l.rd, ∀ ob, aA s.ob i = some ob -> ∀ j ∈ ob.ids, j ∈ l.rd
 dst : ∀ d, o.dst = some d -> d ∈ l.rd /\ 2000000 + d ∈ l.rd
 way : Way E ops o s l.e
theorem ajQ {s : TS} {d : Nat} {t : DT} {x : t.den} (h : s.ev (.tmp d) = .dv t x) : s.sl[d]? = some (.dv t x) := by
 simp only [TS.ev, List.getD] at h
 cases e : s.sl[d]? with
 | none => rw [e] at h; cases h
 | some y => rw [e] at h; exact congrArg some h
theorem aCS {s : TS} {d : Nat} {v : Value} (h : s.ev (.tmp d) = .cst v) : s.sl[d]? = some (.cst v) := by
 simp only [TS.ev, List.getD] at h
 cases e : s.sl[d]? with
 | none => rw [e] at h; cases h
 | some y => rw [e] at h; exact congrArg some h
theorem Lu {s : TS} {d : Nat} {x : TV} (h : s.sl[d]? = some x) : s.ev (.tmp d) = x := by simp [TS.ev, List.getD, h]
theorem guard_looks {ops : Array Oper} {o : Oper} {j d : Nat} {g : Bool} (hg : o.guard = some (j, g)) (hd : (ops[j]?).bind (·.dst) = some d) : Operand.tmp d ∈ looks ops o := by
 simp only [looks, hg, hd]; simp
theorem arO {E : Env} {o : Oper} (h : flat o.op = true) (ev : Operand -> TV) (L L' : aZ) {β : Type} (k : Eff -> Option β) : eff E o ev L k = eff E o ev L' k := by
 obtain ⟨dst, op, g, af⟩ := o
 cases op <;> first | rfl | (simp [flat] at h)
theorem DS.move {P : Program} {E : Env} (hE : mW P E) {ops : Array Oper} {o : Oper} {s t : TS} {l : Lb} (h : DS E ops o s l) (hev : ∀ x ∈ looks ops o, s.ev x = t.ev x) (hrd : ∀ i ∈ l.rd, aA s.ob i = aA t.ob i) (hks : ∀ p ∈ l.e.u, aA s.ob p.1 = aA t.ob p.1) : DS E ops o t l := by
 have hop : ∀ x ∈ opsOf o.op, s.ev x = t.ev x := fun x hx => hev x (by simp only [looks, List.mem_append]; exact .inl hx)
 have key : (∀ (β : Type) (k' : Eff -> Option β), eff E o s.ev (aA s.ob) k' = k' l.e) -> ∀ (β : Type) (k' : Eff -> Option β), eff E o t.ev (aA t.ob) k' = k' l.e := fun hd β k' => by
  rw [<- arN E hop]
  cases hf : flat o.op with
  | true => rw [arO hf s.ev (aA t.ob) (aA s.ob)]; exact hd β k'
  | false => exact arP hE (show iY o s.ev (aA s.ob) (aA t.ob) l.rd from ⟨h.opn hf, h.cl hf, h.dst, hrd⟩) hks hd β k'
 refine ⟨h.at_, fun hf x hx i hi => h.opn hf x hx i (by rw [hop x hx]; exact hi), fun hf i hi ob hob j hj => h.cl hf i hi ob (by rw [hrd i hi]; exact hob) j hj, h.dst, ?_⟩
 cases h.way with
 | run hg hd => exact .run hg (key hd)
 | want j d g hg hd hs he => exact .want j d g hg hd (ajQ (by rw [<- hev _ (guard_looks hg hd)]; exact Lu hs)) (key he)
 | pass j d g t' hg hd hs hne he => exact .pass j d g t' hg hd (ajQ (by rw [<- hev _ (guard_looks hg hd)]; exact Lu hs)) hne he
 | skip j d g xs hg hd hs he => exact .skip j d g xs hg hd (aCS (by rw [<- hev _ (guard_looks hg hd)]; exact Lu hs)) he
structure DD (s t : TS) : Prop where
 sl : s.sl = t.sl
 ob : aA s.ob = aA t.ob
theorem DD.ev {s t : TS} (h : DD s t) : s.ev = t.ev := by
 funext x; cases x <;> simp only [TS.ev, h.sl]
theorem Ja (s : TS) (d : Option Nat) (e : Eff) : (s.app d e).sl = (s.put d e.y).sl := rfl
theorem yR (s : TS) (d : Option Nat) (e : Eff) : aA (s.app d e).ob = eQ e.u (aA s.ob) := EN e.u s.ob
theorem DD.app {s t : TS} (h : DD s t) (d : Option Nat) (e : Eff) : DD (s.app d e) (t.app d e) :=
 ⟨by rw [Ja, Ja]; cases d <;> simp only [TS.put, h.sl], by rw [yR, yR, h.ob]⟩
inductive RL (E : Env) (ops : Array Oper) : List Lb -> TS -> TS -> Prop
 | nil {s t : TS} (h : DD s t) : RL E ops [] s t
 | cons {l : Lb} {r : List Lb} {o : Oper} {s t : TS} (h : DS E ops o s l) (hr : RL E ops r (s.app o.dst l.e) t) : RL E ops (l :: r) s t
section
variable {P : Program} {E : Env} {ops : Array Oper}
theorem RL.cO (hE : mW P E) : ∀ {l : List Lb} {s t s' : TS}, RL E ops l s t -> DD s s' -> RL E ops l s' t
 | _, _, _, _, .nil h, hs => .nil ⟨hs.sl ▸ h.sl, hs.ob ▸ h.ob⟩
 | _, _, _, _, .cons h hr, hs => .cons (h.move hE (fun x _ => by rw [hs.ev]) (fun i _ => by rw [hs.ob]) fun p _ => by rw [hs.ob]) (RL.cO hE hr (hs.app _ _))
theorem acT {s : TS} {d : Option Nat} {e : Eff} {x : Operand} (h : ∀ i, d = some i -> x ≠ .tmp i) : (s.app d e).ev x = s.ev x := by
 cases x with
 | tmp t =>
  cases d with
  | none => rfl
  | some d =>
   have : d ≠ t := fun q => h d rfl (q ▸ rfl)
   simp only [TS.ev, Ja, TS.put, List.getD, List.getElem?_set_ne this]
 | _ => rfl
theorem apF {x i : Oper} (h : J4 ops x i = true) : (∀ z ∈ looks ops i, ∀ d, x.dst = some d -> z ≠ .tmp d) /\ (∀ d, x.dst = some d -> i.dst ≠ some d) /\ (∀ z ∈ looks ops x, ∀ d, i.dst = some d -> z ≠ .tmp d) := by
 simp only [J4, aT] at h
 obtain ⟨h1, h2⟩ := h
 refine ⟨fun z hz d hd => ?_, fun d hd => ?_, fun z hz d hd => ?_⟩
 ·rw [hd] at h1
  simp only [aT, List.all_eq_true] at h1
  have := h1.1 z hz
  intro q; subst q; simp at this
 ·rw [hd] at h1
  simp only [aT, bne_iff_ne] at h1
  exact h1.2
 ·rw [hd] at h2
  simp only [List.all_eq_true] at h2
  have := h2 z hz
  intro q; subst q; simp at this
theorem PD {a b : List Nat} (h : qJ a b = true) {i : Nat} (ha : i ∈ a) (hb : i ∈ b) : False := by
 simp only [qJ, List.all_eq_true, Bool.not_eq_true'] at h
 have := h i ha
 rw [List.contains_iff_mem.2 hb] at this; cases this
theorem Vl {u : List (Nat × TO)} {i : Nat} (h : i ∉ u.map (·.1)) : aA u i = none := by
 induction u with
 | nil => rfl
 | cons p r ih =>
  obtain ⟨j, o⟩ := p
  rw [dI, if_neg (fun e => h (by simp [e]))]
  exact ih fun q => h (by simp only [List.map_cons, List.mem_cons]; exact .inr q)
theorem LZ {u : List (Nat × TO)} {L : aZ} {i : Nat} (h : i ∉ u.map (·.1)) : eQ u L i = L i := by simp only [eQ, Vl h]
theorem aBE {u v : List (Nat × TO)} (h : qJ (u.map (·.1)) (v.map (·.1)) = true) (L : aZ) : eQ u (eQ v L) = eQ v (eQ u L) := by
 funext i
 by_cases hu : i ∈ u.map (·.1)
 ·have hv : i ∉ v.map (·.1) := fun q => PD h hu q
  rw [LZ (u := v) hv]
  simp only [eQ, Vl hv]
 ·rw [LZ hu]
  simp only [eQ, Vl hu]
theorem apB {s : TS} {d d' : Option Nat} {e e' : Eff} (h : ∀ i, d = some i -> d' ≠ some i) (hd : qJ (e.u.map (·.1)) (e'.u.map (·.1)) = true) : DD ((s.app d e).app d' e') ((s.app d' e').app d e) := by
 constructor
 ·simp only [TS.app]
  cases d with
  | none => cases d' <;> rfl
  | some i =>
   cases d' with
   | none => rfl
   | some j =>
    have : i ≠ j := fun q => h i rfl (q ▸ rfl)
    simp only [TS.put, List.set_comm _ _ this]
 ·rw [yR, yR, yR, yR]
  exact (aBE hd _).symm
theorem RL.swap (hE : mW P E) {x i : Lb} {ox oi : Oper} {r : List Lb} {s t : TS} (hx : ops[x.i]? = some ox) (hi : ops[i.i]? = some oi) (ha : J4 ops ox oi = true) (h1 : qJ (x.e.u.map (·.1)) i.rd = true) (h2 : qJ (x.e.u.map (·.1)) (i.e.u.map (·.1)) = true) (h3 : qJ (i.e.u.map (·.1)) x.rd = true)
  (h : RL E ops (x :: i :: r) s t) : RL E ops (i :: x :: r) s t := by
 cases h with
 | cons hdx hr =>
  cases hr with
  | cons hdi hr =>
   obtain rfl : _ = ox := aB (hdx.at_.symm.trans hx)
   obtain rfl : _ = oi := aB (hdi.at_.symm.trans hi)
   obtain ⟨a1, a2, a3⟩ := apF ha
   have k1 : DS E ops _ s i := hdi.move hE (fun z hz => acT fun d hd => a1 z hz d hd)
    (fun j hj => by rw [yR]; exact LZ fun q => PD h1 q hj)
    (fun p hp => by rw [yR]; exact LZ fun q => PD h2 q (List.mem_map_of_mem hp))
   have k2 : DS E ops _ (s.app _ i.e) x := hdx.move hE (fun z hz => (acT fun d hd => a3 z hz d hd).symm)
    (fun j hj => by rw [yR]; exact (LZ fun q => PD h3 q hj).symm)
    (fun p hp => by rw [yR]; exact (LZ fun q => PD h2 (List.mem_map_of_mem hp) q).symm)
   exact .cons k1 (.cons k2 (hr.cO hE (apB a2 h2)))
theorem RL.bubble (hE : mW P E) {i : Lb} {r : List Lb} {t : TS} : ∀ (pre : List Lb) {s : TS}, (∀ x ∈ pre, ∃ ox oi, ops[x.i]? = some ox /\ ops[i.i]? = some oi /\ J4 ops ox oi = true /\ qJ (x.e.u.map (·.1)) i.rd = true /\ qJ (x.e.u.map (·.1)) (i.e.u.map (·.1)) = true /\ qJ (i.e.u.map (·.1)) x.rd = true) ->
  RL E ops (pre ++ i :: r) s t -> RL E ops (i :: (pre ++ r)) s t
 | [], s, _, h => h
 | x :: pre, s, ha, h => by
  cases h with
  | cons hd hr =>
   have := RL.bubble hE pre (fun y hy => ha y (by simp [hy])) hr
   obtain ⟨ox, oi, b1, b2, b3, b4, b5, b6⟩ := ha x (by simp)
   exact RL.swap hE b1 b2 b3 b4 b5 b6 (.cons hd this)
theorem aa8 {o : Oper} {s : TS} {R : List Nat} (h : Jj o s R = true) (hf : flat o.op = false) : (∀ x ∈ opsOf o.op, ∀ i ∈ (s.ev x).ids, i ∈ R) /\ (∀ i ∈ R, ∀ ob, aA s.ob i = some ob -> ∀ j ∈ ob.ids, j ∈ R) := by
 simp only [Jj, hf, Bool.false_or, aT, List.all_eq_true, List.contains_iff_mem] at h
 refine ⟨fun x hx i hi => h.1 i (by simp only [List.mem_flatMap]; exact ⟨x, hx, hi⟩), fun i hi ob hob j hj => ?_⟩
 have := h.2 i hi
 rw [hob] at this
 simp only [List.all_eq_true, List.contains_iff_mem] at this
 exact this j hj
theorem ahP (hT : bW P E.TI) (hE : mW P E) {α : Type} {k : TS -> Option α} {r : α} : ∀ (l : List Oper) (n : Nat) (hist : List UK) (s : TS), (∀ j, l[j]? = ops[n + j]?) -> prun E ops n l hist s k = some r ->
  ∃ ll t, ll.map Lb.i = List.range' n l.length /\ RL E ops ll s t /\ k t = some r /\ ll.Pairwise (fun x y => IB ops x.lab y.lab = true) /\ ∀ h ∈ hist, ∀ x ∈ ll, IB ops h x.lab = true
 | [], n, hist, s, _, h => ⟨[], s, rfl, .nil ⟨rfl, rfl⟩, h, .nil, fun _ _ _ hx => by simp at hx⟩
 | o :: l, n, hist, s, hl, h => by
  simp only [prun] at h
  split at h
  ·rename_i hcl
   obtain ⟨s', ks, h1, h2⟩ := ahH (P := P) (c := ⟨default, fun _ => False, fun _ => none, none, [], []⟩) (F := fun _ => True) hT hE h
   split at h1
   ·rename_i adP
    have hat : ops[n]? = some o := by have := hl 0; simpa using this.symm
    obtain ⟨ll, t, e1, e2, e3, e4, e5⟩ := ahP hT hE l (n + 1) _ s' (fun j => by have := hl (j + 1); simp only [List.getElem?_cons_succ] at this; rw [this]; congr 1; omega) h1
    have hdst : ∀ d, o.dst = some d -> d ∈ EI o s /\ 2000000 + d ∈ EI o s := fun d hd => by simp [EI, hd]
    have fin : ∀ e : Eff, s' = s.app o.dst e -> ks = e.u.map (·.1) -> Way E ops o s e -> ∃ ll t, ll.map Lb.i = List.range' n (o :: l).length /\ RL E ops ll s t /\ k t = some r /\ ll.Pairwise (fun x y => IB ops x.lab y.lab = true) /\ ∀ h ∈ hist, ∀ x ∈ ll, IB ops h x.lab = true := fun e q1 q2 q3 => by
     subst q1; subst q2
     refine ⟨⟨n, EI o s, e⟩ :: ll, t, ?_, .cons ⟨hat, fun hf => (aa8 hcl hf).1, fun hf => (aa8 hcl hf).2, hdst, q3⟩ e2, e3, ?_, ?_⟩
     ·simp only [List.map_cons, e1, List.length_cons, List.range'_succ]
     ·exact .cons (fun x hx => e5 ⟨n, EI o s, e.u.map fun p : Nat × TO => p.1⟩ (by simp) x hx) e4
     ·intro h hh x hx
      rcases List.mem_cons.1 hx with rfl | hx
      ·simp only [List.all_eq_true] at adP; exact adP h hh
      ·exact e5 h (by simp [hh]) x hx
    cases h2 with
    | run hg e hd => exact fin e rfl rfl (.run hg hd)
    | want j d g hg hd hs e he => exact fin e rfl rfl (.want j d g hg hd hs he)
    | pass j d g t hg hd hs hne => exact fin ⟨.cst undef, [], true⟩ (by cases o.dst <;> rfl) rfl (.pass j d g t hg hd hs hne rfl)
    | skip j d g xs hg hd hs => exact fin ⟨.cst undef, [], true⟩ (by cases o.dst <;> rfl) rfl (.skip j d g xs hg hd hs rfl)
   ·cases h1
  ·cases h
variable {c : Cx} {F : Nat -> Prop}
theorem DS.wp (hT : bW P E.TI) (hE : mW P E) {o : Oper} {s : TS} {l : Lb} (h : DS E ops o s l) {a : Act} {w : World} (hr : Rel c F s a w) {Q : Exit -> Act -> World -> Prop} {K : Act -> World -> Prop} (nn : Nat) (hK : ∀ (a' : Act) (w' : World), Rel c F (s.app o.dst l.e) a' w' -> K a' w') : wpOpIn c.vV nn P ops Q l.i K a w := by
 unfold wpOpIn
 rw [h.at_]
 simp only
 cases h.way with
 | run hg hd =>
  rw [if_pos (by simp [Region.wanted, hg])]
  exact ZH (P := P) (c := c) (F := F) hT hE hd nn a w K Q hr fun s' a' w' h1 h2 => hK a' w' (h1 ▸ h2)
 | want j d g hg hd hs he =>
  obtain ⟨π, hm⟩ := id hr
  rw [if_pos (by simp [Region.wanted, hg, hm.yields hd hs])]
  exact ZH (P := P) (c := c) (F := F) hT hE he nn a w K Q hr fun s' a' w' h1 h2 => hK a' w' (h1 ▸ h2)
 | pass j d g t hg hd hs hne he =>
  obtain ⟨π, hm⟩ := id hr
  rw [if_neg (by simp [Region.wanted, hg, hm.yields hd hs]; exact hne)]
  refine ⟨fun _ _ => trivial, hK _ _ ⟨π, ?_⟩⟩
  have := hm.put o.dst (x := .cst undef) (v := undef) rfl
  rw [he]
  exact this.same (by cases o.dst <;> rfl) (by cases o.dst <;> rfl)
 | skip j d g xs hg hd hs he =>
  obtain ⟨π, hm⟩ := id hr
  rw [if_neg (by simp [Region.wanted, hg, hm.akW hd hs])]
  refine ⟨fun _ _ => trivial, hK _ _ ⟨π, ?_⟩⟩
  have := hm.put o.dst (x := .cst undef) (v := undef) rfl
  rw [he]
  exact this.same (by cases o.dst <;> rfl) (by cases o.dst <;> rfl)
def rem (n : Nat) (listed : Array Bool) : List Nat := (List.range n).filter fun i => !listed.getD i true
theorem H7 {n : Nat} {listed : Array Bool} {i : Nat} : i ∈ rem n listed ↔ i < n /\ listed.getD i true = false := by
 simp [rem]
theorem aB8 {n : Nat} {listed : Array Bool} {i : Nat} (h : i ∈ rem n listed) (hs : listed.size = n) {A B : List Nat} (e : rem n listed = A ++ i :: B) : (∀ x ∈ A, x < i) /\ rem n (listed.setIfInBounds i true) = A ++ B := by
 have hp : (rem n listed).Pairwise (· < ·) := List.Pairwise.filter _ List.pairwise_lt_range
 rw [e] at hp
 obtain ⟨h1, h2, h3⟩ := List.pairwise_append.1 hp
 have h4 := List.pairwise_cons.1 h2
 have hin : i < n := (H7.1 h).1
 refine ⟨fun x hx => h3 x hx i (by simp), ?_⟩
 have e2 : rem n (listed.setIfInBounds i true) = (rem n listed).filter fun j => j != i := by
  unfold rem
  rw [List.filter_filter]
  apply List.filter_congr
  intro j hj
  by_cases hji : j = i
  ·subst hji
   have : (listed.setIfInBounds j true).getD j true = true := by simp [Array.getD_eq_getD_getElem?, hs, hin]
   simp [this]
  ·have : (listed.setIfInBounds i true).getD j true = listed.getD j true := by simp [Array.getD_eq_getD_getElem?, Array.getElem?_setIfInBounds_ne (fun q => hji q.symm)]
   rw [this]
   simp [hji]
 rw [e2, e, List.filter_append, List.filter_cons]
 simp only [bne_self_eq_false, Bool.false_eq_true, if_false]
 have f1 : A.filter (fun j => j != i) = A := List.filter_eq_self.2 fun x hx => by have := h3 x hx i (by simp); simp; omega
 have f2 : B.filter (fun j => j != i) = B := List.filter_eq_self.2 fun x hx => by have := h4.1 x hx; simp; omega
 rw [f1, f2]
def Wi (ops : Array Oper) (listed : Array Bool) : Prop :=
 ∀ (i : Nat) (o : Oper), ops[i]? = some o -> listed.getD i false = true -> ∀ ed ∈ o.after, Region.binds .any ed = true -> listed.getD ed.on false = true
theorem akM {listed : Array Bool} (hc : Wi ops listed) : ∀ (f : Nat) (o : Oper) (x : Nat), (∀ ed ∈ o.after, Region.binds .any ed = true -> listed.getD ed.on false = true) -> QZ ops f o x = true -> listed.getD x false = true
 | 0, _, _, _, h => by simp [QZ] at h
 | f + 1, o, x, ho, h => by
  simp only [QZ, List.any_eq_true, aT, Bool.or_eq_true, beq_iff_eq] at h
  obtain ⟨ed, y9, hb, h⟩ := h
  have hl := ho ed (by simpa using y9) hb
  rcases h with rfl | h
  ·exact hl
  ·split at h
   ·rename_i oe he
    exact akM hc f oe x (hc _ oe he hl) h
   ·cases h
theorem adB {listed : Array Bool} {j k : Nat} (h : listed.getD j false = true) : (listed.setIfInBounds k true).getD j false = true := by
 by_cases e : k = j
 ·subst e
  have : k < listed.size := by
   by_cases q : k < listed.size
   ·exact q
   ·simp [Array.getD, q] at h
  simp [Array.getD_eq_getD_getElem?, this]
 ·rw [Array.getD_eq_getD_getElem?, Array.getElem?_setIfInBounds_ne e, <- Array.getD_eq_getD_getElem?]; exact h
theorem arH (nn : Nat) (hT : bW P E.TI) (hE : mW P E) (hd : PE ops = true) {t : TS} {Q : Exit -> Act -> World -> Prop} (hQ : ∀ (a' : Act) (w' : World), Rel c F t a' w' -> Q .normal a' w') :
  ∀ (fuel : Nat) (listed : Array Bool) (s : TS) (a : Act) (w : World) (ll : List Lb), listed.size = ops.size -> Wi ops listed -> ll.length <= fuel -> ll.map Lb.i = rem ops.size listed -> RL E ops ll s t -> ll.Pairwise (fun x y => IB ops x.lab y.lab = true) -> Rel c F s a w -> wpAnyIn c.vV nn P .any ops Q fuel listed a w := by
 simp only [PE, List.all_eq_true, List.mem_range] at hd
 have avY : ∀ (listed : Array Bool), listed.size = ops.size -> Region.ready .any ops listed = [] -> rem ops.size listed = [] := fun listed hs hr => by
  cases e : rem ops.size listed with
  | nil => rfl
  | cons i l =>
   exfalso
   have hi : i ∈ rem ops.size listed := by rw [e]; simp
   obtain ⟨h1, h2⟩ := H7.1 hi
   have ho : ops[i]? = some ops[i] := Array.getElem?_eq_getElem h1
   have : i ∈ Region.ready .any ops listed := by
    refine mem_ready.2 ⟨h2, ops[i], ho, fun ed y9 hb => ?_⟩
    have hdi := hd i h1
    rw [ho] at hdi
    simp only [List.all_eq_true, Bool.or_eq_true, fE] at hdi
    have hlt : ed.on < i := (hdi ed (by simpa using y9)).resolve_left (by rw [hb]; simp)
    cases hl : listed.getD ed.on true with
    | true =>
     have hon : ed.on < listed.size := by omega
     have e5 : listed.getD ed.on false = listed.getD ed.on true := by simp [Array.getD, hon]
     rw [e5, hl]
    | false =>
     have hm : ed.on ∈ rem ops.size listed := H7.2 ⟨by omega, hl⟩
     have hp : (rem ops.size listed).Pairwise (· < ·) := List.Pairwise.filter _ List.pairwise_lt_range
     rw [e] at hm hp
     rcases List.mem_cons.1 hm with q | q
     ·omega
     ·have := (List.pairwise_cons.1 hp).1 _ q; omega
   rw [hr] at this; cases this
 have hend : ∀ {s : TS} {a : Act} {w : World}, RL E ops [] s t -> Rel c F s a w -> Q .normal a w := fun h hr => by
  cases h with
  | nil h => obtain ⟨π, hm⟩ := hr; exact hQ _ _ ⟨π, hm.same h.sl.symm h.ob.symm⟩
 intro fuel
 induction fuel with
 | zero =>
  intro listed s a w ll hs hc hlen hl h hp hr
  have e0 : ll = [] := List.eq_nil_of_length_eq_zero (by omega)
  subst e0
  have e : rem ops.size listed = [] := hl.symm
  refine ⟨?_, hend h hr⟩
  cases er : Region.ready .any ops listed with
  | nil => rfl
  | cons i l =>
   have hi : i ∈ Region.ready .any ops listed := by rw [er]; simp
   obtain ⟨h1, o, h2, _⟩ := mem_ready.1 hi
   have : i ∈ rem ops.size listed := H7.2 ⟨(Array.getElem?_eq_some_iff.1 h2).1, h1⟩
   rw [e] at this; cases this
 | succ fuel ih =>
  intro listed s a w ll hs hc hlen hl h hp hr
  refine ⟨fun hn => ?_, fun i hi => ?_⟩
  ·have e0 : ll = [] := List.eq_nil_of_length_eq_zero (by rw [<- List.length_map (f := Lb.i), hl, avY listed hs hn]; rfl)
   subst e0
   exact hend h hr
  ·obtain ⟨h1, o, h2, h3⟩ := mem_ready.1 hi
   have hlt : i < ops.size := (Array.getElem?_eq_some_iff.1 h2).1
   have hmr : i ∈ rem ops.size listed := H7.2 ⟨hlt, h1⟩
   have hml : i ∈ ll.map Lb.i := by rw [hl]; exact hmr
   obtain ⟨x, hx, rfl⟩ := List.mem_map.1 hml
   obtain ⟨pre, post, rfl⟩ := List.append_of_mem hx
   have adY : rem ops.size listed = pre.map Lb.i ++ x.i :: post.map Lb.i := by rw [<- hl]; simp
   obtain ⟨e2, e3⟩ := aB8 hmr hs adY
   have hpp := List.pairwise_append.1 hp
   have hall : ∀ y ∈ pre, ∃ oy ox, ops[y.i]? = some oy /\ ops[x.i]? = some ox /\ J4 ops oy ox = true /\ qJ (y.e.u.map (·.1)) x.rd = true /\ qJ (y.e.u.map (·.1)) (x.e.u.map (·.1)) = true /\ qJ (x.e.u.map (·.1)) y.rd = true := fun y hy => by
    have hyx := hpp.2.2 y hy x (by simp)
    simp only [IB, Lb.lab, h2] at hyx
    split at hyx
    ·rename_i oy ox g1 g2
     obtain rfl := aB g2
     simp only [Bool.or_eq_true, aT] at hyx
     have hym : y.i ∈ rem ops.size listed := by rw [adY]; simp only [List.mem_append, List.mem_map]; exact .inl ⟨y, hy, rfl⟩
     have hun : listed.getD y.i true = false := (H7.1 hym).2
     have hxs : y.i < listed.size := by have := (H7.1 hym).1; omega
     have e5 : listed.getD y.i false = listed.getD y.i true := by simp [Array.getD, hxs]
     rcases hyx with (hyx | hyx) | hyx
     rotate_left 2
     ·have := akM hc 8 _ _ (fun ed y9 hb => h3 ed y9 hb) hyx
      rw [e5, hun] at this; cases this
     ·exfalso
      simp only [waits, List.any_eq_true, aT, beq_iff_eq] at hyx
      obtain ⟨ed, y9, q1, q2⟩ := hyx
      have hl' := h3 ed (by simpa using y9) q2
      rw [q1] at hl'
      rw [e5, hun] at hl'; cases hl'
     ·exact ⟨oy, _, g1, h2, hyx.1.1.1, hyx.1.1.2, hyx.1.2, hyx.2⟩
    ·cases hyx
   have h4 := RL.bubble hE pre hall h
   cases h4 with
   | cons hd4 hr4 =>
    refine hd4.wp hT hE hr nn fun a' w' hr' => ?_
    refine ih (listed.setIfInBounds x.i true) _ a' w' (pre ++ post) (by simpa using hs) ?_ ?_ ?_ hr4 ?_ hr'
    ·intro i oi hi PX ed y9 hb
     by_cases e : x.i = i
     ·subst e
      obtain rfl := aB (h2.symm.trans hi)
      exact adB (h3 ed y9 hb)
     ·rw [Array.getD_eq_getD_getElem?, Array.getElem?_setIfInBounds_ne e, <- Array.getD_eq_getD_getElem?] at PX
      exact adB (hc i oi hi PX ed y9 hb)
    ·simp only [List.length_append, List.length_cons] at hlen ⊢; omega
    ·rw [e3]; simp
    ·exact List.pairwise_append.2 ⟨hpp.1, (List.pairwise_cons.1 hpp.2.1).2, fun y hy z hz => hpp.2.2 y hy z (by simp [hz])⟩
theorem aBN (xU : P.follows .mixedOrders = true) (hT : bW P E.TI) (hE : mW P E) {id : Nat} {s : TS} (hd : PE ops = true) {α : Type} {k : TS -> Option α} {r : α} (h : prun E ops 0 ops.toList [] s k = some r) : jO P c F (.region id ops true) (fun e p => e = .normal /\ k p = some r) s := fun nn a w ⟨Ds, hD, π, hm⟩ => by
 obtain ⟨ll, t, e1, e2, e3, e4, _⟩ := ahP (ops := ops) hT hE ops.toList 0 [] s (fun j => by simp) h
 refine wpIn_region_any xU ?_
 refine arH (c := c.add Ds) (F := but F Ds) nn hT hE hd (t := t) (fun a' w' hr => ⟨t, ⟨rfl, e3⟩, Ds, hD, hr⟩) ops.size _ s a _ ll (by simp) (fun i oi hi PX => by simp [Array.getD_eq_getD_getElem?, Array.getElem?_replicate] at PX; split at PX <;> simp_all) ?_ ?_ e2 e4 ⟨π, hm.drew⟩
 ·have : ll.length = (ll.map Lb.i).length := (List.length_map ..).symm
  rw [this, e1]; simp
 ·rw [e1]
  unfold rem
  rw [List.filter_eq_self.2]
  ·simp [List.range_eq_range']
  ·intro i hi
   have : i < ops.size := by simpa using hi
   simp [Array.getD_eq_getD_getElem?, this]
end
end
end Go.Proofs.YtfopcfnggdonkaaGreatDoor
