/-
 Lifting Go functions to plain Lean functions, parts Pb Q R S0 S1 S.
-/
import Derived.Test.YtfopcfnggdonkaaGreatDoorYC
namespace Go.Proofs.YtfopcfnggdonkaaGreatDoor
open Go.RowKit
set_option linter.unusedVariables false
section
open Go.ChangeMaps (setBlock)
section
variable {P : Program} {c : Cx} {F : Nat -> Prop} {s : TS}
def Un (o : Oper) (s : TS) : Option (Nat × ((kt : DT) × (vt : DT) × List (kt.den × vt.den))) :=
 match o.op with
 | .next x false => match s.ev x with
  | .row id => match aA s.ob id with
   | some (.iter kt vt l _) => some (id, ⟨kt, vt, l⟩)
   | _ => none
  | _ => none
 | _ => none
def ag2 (o : Oper) (s : TS) (id : Nat) (kt vt : DT) (rest : List (kt.den × vt.den)) (p : kt.den × vt.den) : TS :=
 ⟨(s.put o.dst (.dM 3 fun i => ([.dv .bool true, .dv kt p.1, .dv vt p.2] : List TV).getD i .any)).sl, (id, .iter kt vt rest (some p)) :: s.ob⟩
def overS (o : Oper) (s : TS) : TS := s.put o.dst (.dM 1 fun i => ([.dv .bool false] : List TV).getD i .any)
theorem alD : ∀ {ls : List MapEntry} {e : MapEntry} {j : Nat}, (ls.map (·.born)).Nodup -> ls[j]? = some e -> ls.filter (fun x => !(x.born == e.born)) = ls.take j ++ ls.drop (j + 1)
 | [], e, j, _, h => by simp at h
 | x :: r, e, 0, hn, h => by
  simp only [List.getElem?_cons_zero, aS] at h
  subst h
  simp only [List.map_cons, List.nodup_cons, List.mem_map] at hn
  simp only [List.filter_cons, beq_self_eq_true, Bool.not_true, Bool.false_eq_true, if_false, List.take_zero, List.nil_append, Nat.zero_add, List.drop_succ_cons, List.drop_zero]
  rw [List.filter_eq_self]
  intro y hy
  simp only [Bool.not_eq_true', beq_eq_false_iff_ne]
  exact fun q => hn.1 ⟨y, hy, q⟩
 | x :: r, e, j + 1, hn, h => by
  simp only [List.getElem?_cons_succ] at h
  simp only [List.map_cons, List.nodup_cons, List.mem_map] at hn
  have hx : (x.born == e.born) = false := by
   simp only [beq_eq_false_iff_ne]
   exact fun q => hn.1 ⟨e, List.mem_of_getElem? h, q.symm⟩
  simp only [List.filter_cons, hx, Bool.not_false, if_true, List.take_succ_cons, List.cons_append, List.drop_succ_cons]
  rw [alD hn.2 h]
theorem aAE {o : Oper} {id : Nat} {kt vt : DT} {l : List (kt.den × vt.den)} (h : Un o s = some (id, ⟨kt, vt, l⟩)) :
  pV P c F o (fun s' => (l = [] /\ s' = overS o s) \/ ∃ pre p post, l = pre ++ p :: post /\ s' = ag2 o s id kt vt (pre ++ post) p) s := by
 intro nn a w next Q ⟨π, hm⟩ hn
 obtain ⟨dst, op, ty, pos, after, gd⟩ := o
 unfold Un at h
 simp only at h
 split at h
 ·rename_i x
  split at h
  ·rename_i id' hx
   split at h
   ·rename_i pX qG l' cur ho
    simp only [aS, bJ, Sigma.mk.injEq] at h
    obtain ⟨rfl, rfl, h⟩ := h
    obtain ⟨rfl, h⟩ := Sigma.mk.inj (eq_of_heq h)
    obtain rfl := eq_of_heq h
    have hv := hm.ev x
    rw [hx] at hv
    simp only [VR, ho] at hv
    obtain ⟨r0, e1, hv⟩ := hv
    obtain ⟨r, k1, lx, h0, g, es, ck, seen, ls, h1, h2, h3, h4, h5, h6, h7, h8, h9⟩ := hm.obj id' _ ho
    rw [k1] at e1; obtain rfl := aC e1
    have oL : ∀ {v : Value} {w' : World}, (Instr.next (.pointer (some ⟨r, 0, none⟩)) false ty).run P w = .ok v w' -> (execOp a.eval ⟨dst, .next x false, ty, pos, after, gd⟩).run P w = .ok (.value v) w' := fun h =>
     eP (e := Instr.next (a.eval x) false ty) rfl (by rw [hv]; exact h)
    have hlf : (leftOf es seen).toList = ls := by rw [h6, leftOf, Array.toList_filter]
    rcases run_next_at (P := P) w ty r g ck ck seen es ck h1 h3 h4 (Nat.le_refl _) with ⟨q1, q2⟩ | ⟨e, q1, w1, q2, q3⟩
    ·have hl : l' = [] := List.eq_nil_of_length_eq_zero (by rw [<- h0.length_eq, <- h7, <- hlf]; simpa using q1)
     refine Zr (oL q2) (hn _ _ _ (.inl ⟨hl, rfl⟩) ⟨π, hm.put dst ⟨_, rfl, rfl, fun j hj => ?_⟩⟩)
     match j, hj with
     | 0, _ => exact ⟨.bool false, rfl, (DT.val_one (t := .bool) rfl).2 rfl⟩
    ·rw [hlf] at q1
     obtain ⟨j, hj, he⟩ := List.getElem_of_mem q1
     have hej : ls[j]? = some e := by rw [List.getElem?_eq_getElem hj, he]
     obtain ⟨p, p1, p2, p3⟩ := h8 j e hej
     have hjl : j < lx.length := by omega
     have hp : lx[j] = p := by rw [List.getElem?_eq_getElem hjl] at p1; exact aC p1
     have aw2 : lx = lx.take j ++ p :: lx.drop (j + 1) := by
      rw [<- hp, List.getElem_cons_drop, List.take_append_drop]
     obtain ⟨pre, post, hl'⟩ : ∃ pre post, l' = pre ++ p :: post := List.append_of_mem (h0.mem_iff.1 (by rw [<- hp]; exact List.getElem_mem hjl))
     have hq : (lx.take j ++ lx.drop (j + 1)).Perm (pre ++ post) := by
      rw [aw2, hl'] at h0
      exact (List.perm_middle.symm.trans (h0.trans List.perm_middle)).cons_inv
     have hm1 : aI c F π s a w1 := by
      rcases q2 with rfl | rfl
      ·exact hm
      ·exact hm.drew
     have hw1 : ∀ b : Nat, w1.heap[b]? = w.heap[b]? := by
      rcases q2 with rfl | rfl <;> exact fun _ => rfl
     have hsz1 : w1.heap.size = w.heap.size := by rcases q2 with rfl | rfl <;> rfl
     have hes : e ∈ es.toList := by rw [h6] at q1; exact (List.mem_filter.1 q1).1
     have hr1 : w1.heap[r]? = some (.mapIter (some g) ck seen ck) := (hw1 r).trans h1
     obtain ⟨s1, s2⟩ := MapKept.heap_set (o' := .mapIter (some g) ck (seen.push e.born) ck) hr1
     have hoth : ∀ b, b ≠ r -> (setBlock w1 r (.mapIter (some g) ck (seen.push e.born) ck)).heap[b]? = w1.heap[b]? := fun b hb => s2 b hb
     have afP : (setBlock w1 r (.mapIter (some g) ck (seen.push e.born) ck)).heap.size = w1.heap.size := by simp [setBlock]
     have E : gK w1 (Gz F w1 π (aA s.ob)) π (aA s.ob) (setBlock w1 r (.mapIter (some g) ck (seen.push e.born) ck)) (Gz F (setBlock w1 r (.mapIter (some g) ck (seen.push e.born) ck)) π (aA ((id', .iter pX qG (pre ++ post) (some p)) :: s.ob))) π (aA ((id', .iter pX qG (pre ++ post) (some p)) :: s.ob)) :=
      gK.set ho k1 rfl rfl (fun _ => rfl) hoth afP
     have fz1 : fG w (Gz F w π (aA s.ob)) w1 (Gz F w1 π (aA s.ob)) := fun b ⟨r0, r1, r2⟩ => ⟨⟨r0, by rw [hsz1]; exact r1, r2⟩, hw1 b⟩
     have hfz : fG w (Gz F w π (aA s.ob)) (setBlock w1 r (.mapIter (some g) ck (seen.push e.born) ck)) (Gz F (setBlock w1 r (.mapIter (some g) ck (seen.push e.born) ck)) π (aA ((id', .iter pX qG (pre ++ post) (some p)) :: s.ob))) := fun b hb => by
      obtain ⟨a1, a2⟩ := fz1 b hb
      obtain ⟨a3, a4⟩ := E.fz b a1
      exact ⟨a3, a4.trans a2⟩
     have hnl : (ls.map (·.born)).Nodup := by rw [h6]; exact (List.filter_sublist.map _).nodup h5
     have awQ : (es.toList.filter fun x => !(seen.push e.born).contains x.born) = ls.take j ++ ls.drop (j + 1) := by
      rw [<- alD hnl hej, h6, List.filter_filter]
      congr 1
      funext x
      simp only [Array.contains_push]
      cases hb : (x.born == e.born) <;> simp
     have hG := hfz g h2
     have hR := hm1.set (o' := .iter pX qG (pre ++ post) (some p)) ho k1 rfl rfl (fun _ => rfl) hoth afP ⟨rfl, rfl, rfl⟩
      ⟨r, k1, lx.take j ++ lx.drop (j + 1), hq, g, es, ck, seen.push e.born, ls.take j ++ ls.drop (j + 1), s1, hG.1, hG.2.trans h3, h4, h5, awQ.symm, by simp [h7], fun i e' he' => by
       have key : ∀ q, ls[q]? = some e' -> (lx.take j ++ lx.drop (j + 1))[i]? = lx[q]? -> ∃ y, (lx.take j ++ lx.drop (j + 1))[i]? = some y /\ pX.val y.1 _ _ e'.key /\ qG.val y.2 _ _ e'.val := fun q hq hq2 => by
        obtain ⟨y, y1, y2, y3⟩ := h8 q e' hq
        exact ⟨y, hq2.trans y1, DT.iD hfz y2, DT.iD hfz y3⟩
       by_cases hi : i < j
       ·rw [List.getElem?_append_left (by simp; omega), List.getElem?_take_of_lt hi] at he'
        exact key i he' (by rw [List.getElem?_append_left (by simp; omega), List.getElem?_take_of_lt hi])
       ·rw [List.getElem?_append_right (by simp; omega), List.getElem?_drop] at he'
        refine key _ he' ?_
        rw [List.getElem?_append_right (by simp; omega), List.getElem?_drop]
        congr 1
        simp; omega, fun p' hp' => by
       obtain rfl := aC hp'
       exact ⟨e, seen, hes, rfl, DT.iD hfz p2, DT.iD hfz p3⟩⟩
     refine Zr (oL q3) (hn _ _ _ (.inr ⟨pre, p, post, hl', rfl⟩) ⟨π, ?_⟩)
     have hput := hR.put dst (x := .dM 3 fun i => ([.dv .bool true, .dv pX p.1, .dv qG p.2] : List TV).getD i .any) (v := .tuple #[.bool true, e.key, e.val]) ⟨_, rfl, rfl, fun i hi => by
      match i, hi with
      | 0, _ => exact ⟨.bool true, rfl, (DT.val_one (t := .bool) rfl).2 rfl⟩
      | 1, _ => exact ⟨e.key, rfl, DT.iD hfz p2⟩
      | 2, _ => exact ⟨e.val, rfl, DT.iD hfz p3⟩⟩
     cases dst <;> exact hput
   ·cases h
  ·cases h
 ·cases h
end
end
section
variable {α : Type}
def pg (E : Env) (ops : Array Oper) (o : Oper) (s : TS) (k : TS -> List Nat -> Option α) : Option α :=
 match o.guard with
 | none => eff E o s.ev (aA s.ob) fun e => k (s.app o.dst e) (e.u.map (·.1))
 | some (j, g) => match (ops[j]?).bind (·.dst) with
  | some d => match s.sl[d]? with
   | some (.dv .bool t) => cond t
     (cond g (eff E o (s.put (some d) (.dv .bool true)).ev (aA s.ob) fun e => k ((s.put (some d) (.dv .bool true)).app o.dst e) (e.u.map (·.1))) (k ((s.put (some d) (.dv .bool true)).put o.dst (.cst undef)) []))
     (cond g (k ((s.put (some d) (.dv .bool false)).put o.dst (.cst undef)) []) (eff E o (s.put (some d) (.dv .bool false)).ev (aA s.ob) fun e => k ((s.put (some d) (.dv .bool false)).app o.dst e) (e.u.map (·.1))))
   | some (.cst (.tuple _)) => k (s.put o.dst (.cst undef)) []
   | _ => none
  | none => none
class Jn (α : Type) where
 jn : Option α -> Option α -> Option α
 ok : ∀ {x y : Option α} {r : α}, jn x y = some r -> x = some r /\ y = some r
instance (priority := low) aJ' (α : Type) : Jn α := ⟨fun _ _ => none, fun h => by cases h⟩
def jnU (x y : Option Unit) : Option Unit :=
 match x, y with
 | some _, some _ => some ()
 | _, _ => none
instance aKA : Jn Unit := ⟨jnU, fun {x y r} h => by
 cases x with
 | none => cases h
 | some x => cases y with
  | none => cases h
  | some y => exact ⟨rfl, rfl⟩⟩
def SV {β : Type} [Jn α] (f : β -> List β -> Option α) (pre : List β) (p : β) : List β -> Option α
 | [] => f p pre
 | q :: r => Jn.jn (f p (pre ++ q :: r)) (SV f (pre ++ [p]) q r)
def Di {β : Type} [Jn α] (l : List β) (x0 : Option α) (f : β -> List β -> Option α) : Option α :=
 match l with
 | [] => x0
 | p :: r => SV f [] p r
theorem aeH {β : Type} [Jn α] {f : β -> List β -> Option α} {z : α} : ∀ {r pre : List β} {p : β}, SV f pre p r = some z -> ∀ u q v, pre ++ p :: r = u ++ q :: v -> (pre.length <= u.length) -> f q (u ++ v) = some z
 | [], pre, p, h, u, q, v, e, hl => by
  have e1 := congrArg List.length e
  simp only [List.length_append, List.length_cons, List.length_nil] at e1
  obtain ⟨rfl, e2⟩ := List.append_inj e (by omega)
  obtain ⟨rfl, rfl⟩ := List.cons.inj e2
  simpa [SV] using h
 | x :: r, pre, p, h, u, q, v, e, hl => by
  simp only [SV] at h
  obtain ⟨h1, h2⟩ := Jn.ok h
  rcases Nat.lt_or_ge pre.length u.length with hlt | hge
  ·exact aeH h2 u q v (by simpa using e) (by simp; omega)
  ·obtain ⟨rfl, e2⟩ := List.append_inj e (by omega)
   obtain ⟨rfl, rfl⟩ := List.cons.inj e2
   exact h1
theorem as1 {β : Type} [Jn α] {l : List β} {x0 : Option α} {f : β -> List β -> Option α} {z : α} (h : Di l x0 f = some z) : (l = [] -> x0 = some z) /\ ∀ u q v, l = u ++ q :: v -> f q (u ++ v) = some z := by
 cases l with
 | nil => exact ⟨fun _ => h, fun u q v e => by simp at e⟩
 | cons p r => exact ⟨(fun e => by cases e), fun u q v e => aeH (pre := []) h u q v e (Nat.zero_le _)⟩
def zM [Jn α] (E : Env) (ops : Array Oper) : List Oper -> TS -> (TS -> Option α) -> Option α
 | [], s, k => k s
 | o :: r, s, k => match o.guard with
  | some _ => pg E ops o s fun s' _ => zM E ops r s' k
  | none => match twin E o s with
   | some (s1, s2, b) => chk b (Jn.jn (zM E ops r s1 k) (zM E ops r s2 k))
   | none => match Un o s with
    | some (id, ⟨kt, vt, l⟩) => Di l (zM E ops r (overS o s) k) fun p rest => zM E ops r (ag2 o s id kt vt rest p) k
    | none => pg E ops o s fun s' _ => zM E ops r s' k
def opsOf (op : Op) : List Operand := op.operands.toList
def looks (ops : Array Oper) (o : Oper) : List Operand :=
 opsOf o.op ++ (match o.guard with
  | some (j, _) => (match (ops[j]?).bind (·.dst) with
   | some d => [.tmp d]
   | none => [])
  | none => [])
def flat : Op -> Bool
 | .move _ => true
 | .assign _ => true
 | _ => false
def GV (o : Oper) (s : TS) : List Nat :=
 (if flat o.op then [] else uG 60 (aA s.ob) ((opsOf o.op).flatMap fun x => (s.ev x).ids) []) ++ (match o.dst with | some d => [d, 2000000 + d] | none => [])
def MN (ops : Array Oper) (x i : Oper) : Bool :=
  (match x.dst with
   | some d => (looks ops i).all (fun z => match z with | .tmp t => t != d | _ => true) && i.dst != some d
   | none => true) &&
  (match i.dst with
   | some d => (looks ops x).all (fun z => match z with | .tmp t => t != d | _ => true)
   | none => true)
def tJ (a b : List Nat) : Bool := a.all fun i => !b.contains i
structure XP where
 i : Nat
 rd : List Nat
 ks : List Nat
def waits (o : Oper) (x : Nat) : Bool := o.after.toList.any fun e => e.on == x && Region.binds .any e
def VC (ops : Array Oper) : Nat -> Oper -> Nat -> Bool
 | 0, _, _ => false
 | f + 1, o, x => o.after.toList.any fun e => Region.binds .any e && (e.on == x || match ops[e.on]? with
  | some oe => VC ops f oe x
  | none => false)
def J3 (ops : Array Oper) (x i : XP) : Bool :=
 match ops[x.i]?, ops[i.i]? with
 | some ox, some oi => waits oi x.i || (MN ops ox oi && tJ x.ks i.rd && tJ x.ks i.ks && tJ i.ks x.rd) || VC ops 8 oi x.i
 | _, _ => false
def Ou (o : Oper) (s : TS) (R : List Nat) : Bool :=
 flat o.op || ((opsOf o.op).flatMap fun x => (s.ev x).ids).all (fun i => R.contains i) && R.all fun i => match aA s.ob i with
  | some ob => ob.ids.all fun j => R.contains j
  | none => true
def prun (E : Env) (ops : Array Oper) : Nat -> List Oper -> List XP -> TS -> (TS -> Option α) -> Option α
 | _, [], _, s, k => k s
 | n, o :: l, hist, s, k =>
  if Ou o s (GV o s) then
   pg E ops o s fun s' ks => if hist.all fun x => J3 ops x ⟨n, GV o s, ks⟩ then prun E ops (n + 1) l (⟨n, GV o s, ks⟩ :: hist) s' k else none
  else none
def SS (ops : Array Oper) : Bool :=
 (List.range ops.size).all fun i => match ops[i]? with
  | some o => o.after.toList.all fun e => !Region.binds .any e || decide (e.on < i)
  | none => true
def afS (id : Nat) : Exit -> Exit
 | .exit i => if i = id then .normal else .exit i
 | e => e
abbrev dD (α : Type) := Exit -> TS -> Option α
def af5 (f : TS -> dD α -> Option α) (k : dD α) : dD α := fun e s => match e with
 | .normal => f s k
 | .exit i => k (.exit i) s
 | .goto i => k (.goto i) s
 | .ret => k .ret s
 | _ => none
def Us (id : Nat) (k : dD α) : dD α := fun e s => k (afS id e) s
def af4 (k : dD α) : dD α := fun e s => match e with
 | .goto _ => none
 | e => k e s
def sD (nm : TS -> Option TS) (k : dD α) (rec : TS -> Option α) : dD α := fun e s => match e with
 | .normal => match nm s with
  | some s1 => rec s1
  | none => none
 | .exit i => k (.exit i) s
 | .goto i => k (.goto i) s
 | .ret => k .ret s
 | _ => none
def dW (body : TS -> dD α -> Option α) (nm : TS -> Option TS) (k : dD α) : Nat -> TS -> Option α
 | 0, _ => none
 | n + 1, s => body s (sD nm k (dW body nm k n))
def TT : Code -> Nat
 | .region id _ _ => id
 | .seq a _ => TT a
 | .block _ a => TT a
 | .loop a => TT a
 | _ => 0
def TS.lit (s : TS) (c : Operand) (b : Bool) : TS :=
 match c with
 | .tmp t => s.put (some t) (.dv .bool b)
 | _ => s
def ai3 (pp : List Nat) (lv : Nat -> Option Norm) (id : Nat) (s : TS) : Option TS :=
 match lv (1000000 + id) with
 | some nm => if nm.rows.isEmpty then TS.ZX pp nm.zI s else s.qR pp nm
 | none => match lv (2000000 + id) with
  | some nm => s.qR pp nm
  | none => some s
def OZ {β : Type} (EP : β -> TS -> dD α -> Option α) (nrm : TS -> Option TS) (k : dD α) : List β -> TS -> Option α
 | [], s1 => k .normal s1
 | x :: r, s1 => EP x s1 fun e s' => match e with
  | .normal => match nrm s' with
   | some s2 => OZ EP nrm k r s2
   | none => none
  | .exit i => k (.exit i) s'
  | .ret => k .ret s'
  | _ => none
def Ej (O O' : List (Nat × TO)) : Bool := O.all fun p => match aA O' p.1 with
 | some o => o.live || (match o with | .dead => true | _ => false)
 | none => true
def Yb (O : List (Nat × TO)) : Bool := O.all fun p => !p.2.rZ
def U3 (as_ body : List Nat -> TS -> dD α -> Option α) (p : Tmp) (x : TV) (s1 : TS) (K : dD α) : Option α :=
 if Yb s1.ob then as_ (s1.ob.map (·.1)) (s1.put (some p) x) fun e s2 => match e with
  | .normal => if Ej s1.ob s2.ob && Yb s2.ob then body (s2.ob.map (·.1)) s2 (fun e s3 => if Ej s2.ob s3.ob then K e ⟨s1.sl, s3.ob⟩ else none) else none
  | _ => none
 else none
def ax9 (sl : List TV) (O : List (Nat × TO)) (nrm : TS -> Option TS) (k : dD α) (T : TS -> Option α) : dD α := fun e s3 =>
 if Ej O s3.ob then (match e with
  | .normal => match nrm ⟨sl, s3.ob⟩ with
   | some s2 => T s2
   | none => none
  | .exit i => k (.exit i) ⟨sl, s3.ob⟩
  | .ret => k .ret ⟨sl, s3.ob⟩
  | _ => none) else none
def pM [Jn α] (E : Env) (lv : Nat -> Option Norm) (N : Nat) : Code -> List Nat -> TS -> dD α -> Option α
 | .skip, pp, s, k => k .normal s
 | .region id ops dr, pp, s, k => match ai3 pp lv id s with
  | some s1 => cond dr (if SS ops then prun E ops 0 ops.toList [] s1 fun s' => k .normal s' else none) (zM E ops ops.toList s1 fun s' => k .normal s')
  | none => none
 | .seq a b, pp, s, k => pM E lv N a pp s (af5 (pM E lv N b pp) k)
 | .cond c a b, pp, s, k => match s.ev c with
  | .dv .bool t => cond t (pM E lv N a pp (s.lit c true) k) (pM E lv N b pp (s.lit c false) k)
  | _ => none
 | .block id a, pp, s, k => pM E lv N a pp s (Us id k)
 | .scope a, pp, s, k => pM E lv N a pp s (af4 k)
 | .label _, pp, s, k => k .normal s
 | .loop a, pp, s, k => match lv (TT a) with
  | some nm => match s.qR pp nm with
   | some s1 => dW (pM E lv N a pp) (TS.qR pp nm) k N s1
   | none => none
  | none => none
 | .rangeFunc g ps a b, pp, s, k => match lv (TT b), ps.toList with
  | some nm, [p] => match s.qR pp nm with
   | some s1 => match E.seq (s1.ev g) with
    | some (bb, ⟨t, xs⟩) => chk bb (OZ (fun x s1 K => U3 (pM E lv N a) (pM E lv N b) p (.dv t x) s1 K) (TS.qR pp nm) k xs s1)
    | none => none
   | none => none
  | _, _ => none
 | .exit id, pp, s, k => k (.exit id) s
 | .goto l, pp, s, k => k (.goto l) s
 | .ret, pp, s, k => k .ret s
 | _, _, _, _ => none
def den [Jn α] (E : Env) (lv : Nat -> Option Norm) (N : Nat) (c : Code) (s : TS) (k : dD α) : Option α := pM E lv N c [] s k
def sub : Code -> List Nat -> Code
 | .seq a _, 0 :: p => sub a p
 | .seq _ b, _ :: p => sub b p
 | .cond _ a _, 0 :: p => sub a p
 | .cond _ _ b, _ :: p => sub b p
 | .block _ a, _ :: p => sub a p
 | .scope a, _ :: p => sub a p
 | .loop a, _ :: p => sub a p
 | .rangeFunc _ _ a _, 0 :: p => sub a p
 | .rangeFunc _ _ _ b, _ :: p => sub b p
 | c, _ => c
def FZ [Jn α] (E : Env) (lv : Nat -> Option Norm) (N : Nat) (pp : List Nat) : Code -> List Nat -> dD α -> dD α
 | .seq a b, 0 :: p, k => FZ E lv N pp a p (af5 (pM E lv N b pp) k)
 | .seq _ b, _ :: p, k => FZ E lv N pp b p k
 | .cond _ a _, 0 :: p, k => FZ E lv N pp a p k
 | .cond _ _ b, _ :: p, k => FZ E lv N pp b p k
 | .block id a, _ :: p, k => FZ E lv N pp a p (Us id k)
 | .scope a, _ :: p, k => FZ E lv N pp a p (af4 k)
 | _, _, k => k
def eH [Jn α] (E : Env) (lv : Nat -> Option Norm) (N : Nat) (c : Code) (p : List Nat) (k : dD α) : dD α := FZ E lv N [] c p k
structure End where
 nY : List (Nat × DT)
 nm : Norm
def TA (TI : Nat -> TD) (en : End) (rs : List ResultVar) (dec : List TV -> List (Nat × TO) -> Option α) (s : TS) : Option α :=
 match GX TI s rs with
 | some l => match VA en.nY ⟨s.sl ++ l, s.ob⟩ with
  | some (s0, b) => chk b (match s0.norm en.nm with
   | some s1 => dec (s1.sl.drop s.sl.length) s1.ob
   | none => none)
  | none => none
 | none => none
def fin (TI : Nat -> TD) (en : End) (rs : List ResultVar) (dec : List TV -> List (Nat × TO) -> Option α) : dD α := fun e s =>
 match e with
 | .normal => TA TI en rs dec s
 | .ret => TA TI en rs dec s
 | _ => none
structure bT where
 ρ : Type
 sig : List TV -> Option (List Md)
 ans : List TV -> List (Nat × TO) -> Option ρ
 enc : List TV -> List (Nat × TO) -> ρ -> TV
 cZ : List TV -> List (Nat × TO) -> ρ -> List (Nat × TO)
def Zb : List (Nat × bT) -> Nat -> List TV -> Option (List Md)
 | [], _, _ => none
 | (i, c) :: r, f, xs => if f = i then (match c.sig xs with
  | some m => some m
  | none => Zb r f xs) else Zb r f xs
def Jl : List (Nat × bT) -> Nat -> List TV -> List (Nat × TO) -> (TV -> List (Nat × TO) -> Option α) -> Option α
 | [], _, _, _, _ => none
 | (i, c) :: r, f, args, Of, k => if f = i then (match c.ans args Of with
  | some x => k (c.enc args Of x) (c.cZ args Of x)
  | none => Jl r f args Of k) else Jl r f args Of k
def dF (TI : Nat -> TD) (TY : Nat -> DT) (L : List (Nat × bT)) (rc : Nat -> Option (List (Option DT))) (fz : Nat -> Bool) : Env where
 TI := TI
 TY := TY
 rc := rc
 fz := fz
 tw := fun _ => none
 sig := Zb L
 phi := fun f args Of k => Jl L f args Of k
 seq := fun _ => none
def Iq (TI : Nat -> TD) (TY : Nat -> DT) (L : List (Nat × bT)) (rc : Nat -> Option (List (Option DT))) (fz : Nat -> Bool) (tw : Nat -> Option Nat) : Env := { dF TI TY L rc fz with tw := tw }
def bK [Jn α] (E : Env) (lv : Nat -> Option Norm) (N : Nat) (en : End) (c : Code) (rs : List ResultVar) (nt : Nat) (args : List TV) (O : List (Nat × TO)) (dec : List TV -> List (Nat × TO) -> Option α) : Option α :=
 den E lv N c ⟨args ++ List.replicate nt .any, O⟩ (fin E.TI en rs dec)
end
section
theorem Ve {s : TS} {d : Nat} {x : TV} (h : s.sl[d]? = some x) : s.put (some d) x = s := by
 obtain ⟨sl, ob⟩ := s
 simp only [TS.put, TS.mk.injEq, and_true]
 have hl := (List.getElem?_eq_some_iff.1 h).1
 apply List.ext_getElem?
 intro i
 by_cases e : d = i
 ·subst e; rw [List.getElem?_set_self hl]; exact h.symm
 ·rw [List.getElem?_set_ne e]
theorem TS.agI {s : TS} {c : Operand} {t : Bool} (h : s.ev c = .dv .bool t) : s.lit c t = s := by
 cases c with
 | tmp d =>
  simp only [TS.lit]
  refine Ve ?_
  simp only [TS.ev, List.getD] at h
  cases e : s.sl[d]? with
  | none => rw [e] at h; cases h
  | some x => rw [e] at h; exact congrArg some h
 | _ => rfl
inductive St (P : Program) (E : Env) (c : Cx) (F : Nat -> Prop) (ops : Array Oper) (o : Oper) (s : TS) : TS -> List Nat -> Prop
 | run (hg : o.guard = none) (e : Eff) (hd : ∀ (β : Type) (k' : Eff -> Option β), eff E o s.ev (aA s.ob) k' = k' e) : St P E c F ops o s (s.app o.dst e) (e.u.map (·.1))
 | want (j d : Nat) (g : Bool) (hg : o.guard = some (j, g)) (hd : (ops[j]?).bind (·.dst) = some d) (hs : s.sl[d]? = some (.dv .bool g)) (e : Eff) (he : ∀ (β : Type) (k' : Eff -> Option β), eff E o s.ev (aA s.ob) k' = k' e) : St P E c F ops o s (s.app o.dst e) (e.u.map (·.1))
 | pass (j d : Nat) (g t : Bool) (hg : o.guard = some (j, g)) (hd : (ops[j]?).bind (·.dst) = some d) (hs : s.sl[d]? = some (.dv .bool t)) (hne : t ≠ g) : St P E c F ops o s (s.put o.dst (.cst undef)) []
 | skip (j d : Nat) (g : Bool) (xs : Array Value) (hg : o.guard = some (j, g)) (hd : (ops[j]?).bind (·.dst) = some d) (hs : s.sl[d]? = some (.cst (.tuple xs))) : St P E c F ops o s (s.put o.dst (.cst undef)) []
section
variable {P : Program} {E : Env} {c : Cx} {F : Nat -> Prop} {s : TS}
theorem ai0 (hT : dI P E.TI) (hE : oW P E) {ops : Array Oper} {o : Oper} {α : Type} {k : TS -> List Nat -> Option α} {r : α} (h : pg E ops o s k = some r) : ∃ s' ks, k s' ks = some r /\ St P E c F ops o s s' ks := by
 unfold pg at h
 split at h
 ·rename_i hg
  obtain ⟨e, h1, h2, _⟩ := Dj (P := P) (c := c) (F := F) hT hE h
  exact ⟨_, _, h1, .run hg e h2⟩
 ·rename_i j g hg
  split at h
  ·rename_i d hd
   split at h
   ·rename_i t hs
    cases t with
    | true =>
     simp only [cond_true] at h
     rw [Ve hs] at h
     cases g with
     | true =>
      simp only [cond_true] at h
      obtain ⟨e, h1, h2, _⟩ := Dj (P := P) (c := c) (F := F) hT hE h
      exact ⟨_, _, h1, .want j d true hg hd hs e h2⟩
     | false => exact ⟨_, _, h, .pass j d false true hg hd hs (by decide)⟩
    | false =>
     simp only [cond_false] at h
     rw [Ve hs] at h
     cases g with
     | false =>
      simp only [cond_false] at h
      obtain ⟨e, h1, h2, _⟩ := Dj (P := P) (c := c) (F := F) hT hE h
      exact ⟨_, _, h1, .want j d false hg hd hs e h2⟩
     | true => exact ⟨_, _, h, .pass j d true false hg hd hs (by decide)⟩
   ·rename_i xs hs; exact ⟨_, _, h, .skip j d g xs hg hd hs⟩
   ·cases h
  ·cases h
theorem Dh (hT : dI P E.TI) (hE : oW P E) {o : Oper} {e : Eff} (h : ∀ (β : Type) (k' : Eff -> Option β), eff E o s.ev (aA s.ob) k' = k' e) : pV P c F o (fun s' => s' = s.app o.dst e) s := by
 obtain ⟨e', h1, h2, h3⟩ := Dj (P := P) (c := c) (F := F) (k := fun _ => some ()) (r := ()) hT hE (h Unit fun _ => some ())
 have : e' = e := by
  have a := h Eff fun x => some x
  rw [h2 Eff fun x => some x] at a
  exact aC a
 subst this; exact h3
theorem aI.amG {π : Nat -> Pl} {a : Act} {w : World} (h : aI c F π s a w) {ops : Array Oper} {j d : Nat} {xs : Array Value} (hd : (ops[j]?).bind (·.dst) = some d) (hs : s.sl[d]? = some (.cst (.tuple xs))) : yielded ops a.tmps j = none := by
 have h1 := h.slot d _ hs
 have hl : d < s.sl.length := (List.getElem?_eq_some_iff.1 hs).1
 have hl' : d < a.tmps.size := by rw [h.size]; exact hl
 have h2 : a.tmps.getD d undef = .tuple xs := h1
 have h3 : a.tmps[d]? = some (.tuple xs) := by
  rw [Array.getElem?_eq_getElem hl']; simp only [Array.getD, hl', dif_pos] at h2; exact congrArg some h2
 simp [yielded, hd, h3]
theorem PL.aCR {ops : Array Oper} {o : Oper} {l : List Oper} {K : TS -> Prop} {j d : Nat} {b b' : Bool} (hg : o.guard = some (j, b)) (hd : (ops[j]?).bind (·.dst) = some d) (hs : s.sl[d]? = some (.dv .bool b')) (hne : b' ≠ b)
  (h : PL P c F ops l K (s.put o.dst (.cst undef))) : PL P c F ops (o :: l) K s := fun nn a w Q hr hk => by
 have hr0 := hr
 obtain ⟨π, hm⟩ := hr0
 refine wpListIn_step fun K' hK' => ?_
 rw [if_neg (by simp [Region.wanted, hg, hm.yields hd hs]; exact hne)]
 exact ⟨fun _ _ => trivial, hK' _ _ (h nn _ w Q ⟨π, hm.put _ (x := .cst undef) rfl⟩ hk)⟩
theorem PL.aDS {ops : Array Oper} {o : Oper} {l : List Oper} {K : TS -> Prop} {j d : Nat} {b : Bool} {xs : Array Value} (hg : o.guard = some (j, b)) (hd : (ops[j]?).bind (·.dst) = some d) (hs : s.sl[d]? = some (.cst (.tuple xs)))
  (h : PL P c F ops l K (s.put o.dst (.cst undef))) : PL P c F ops (o :: l) K s := fun nn a w Q hr hk => by
 have hr0 := hr
 obtain ⟨π, hm⟩ := hr0
 refine wpListIn_step fun K' hK' => ?_
 rw [if_neg (by simp [Region.wanted, hg, hm.amG hd hs])]
 exact ⟨fun _ _ => trivial, hK' _ _ (h nn _ w Q ⟨π, hm.put _ (x := .cst undef) rfl⟩ hk)⟩
theorem St.pl (hT : dI P E.TI) (hE : oW P E) {ops : Array Oper} {o : Oper} {l : List Oper} {K : TS -> Prop} {s' : TS} {ks : List Nat} (h : St P E c F ops o s s' ks) (hk : PL P c F ops l K s') : PL P c F ops (o :: l) K s := by
 cases h with
 | run hg e hd => exact PL.GR hg ((Dh hT hE hd).mono fun s2 e2 => by subst e2; exact hk)
 | want j d g hg hd hs e he => exact PL.aHC hg hd hs ((Dh hT hE he).mono fun s2 e2 => by subst e2; exact hk)
 | pass j d g t hg hd hs hne => exact PL.aCR hg hd hs hne hk
 | skip j d g xs hg hd hs => exact PL.aDS hg hd hs hk
theorem OW (hT : dI P E.TI) (hE : oW P E) {ops : Array Oper} {α : Type} [Jn α] : ∀ (l : List Oper) {s : TS} {k : TS -> Option α} {r : α}, zM E ops l s k = some r -> PL P c F ops l (fun s' => k s' = some r) s
 | [], s, k, r, h => PL.nil h
 | o :: l, s, k, r, h => by
  have plain : pg E ops o s (fun s' _ => zM E ops l s' k) = some r -> PL P c F ops (o :: l) (fun s' => k s' = some r) s := fun h => by
   obtain ⟨s', ks, h1, h2⟩ := ai0 (P := P) (c := c) (F := F) hT hE h
   exact h2.pl hT hE (OW hT hE l h1)
  simp only [zM] at h
  split at h
  ·exact plain h
  ·rename_i hg
   split at h
   ·rename_i s1 s2 b htw
    obtain ⟨hb, h⟩ := IY h
    obtain ⟨h1, h2⟩ := Jn.ok h
    exact PL.GR hg ((aG6 hT htw hb).mono fun s' e => by
     rcases e with rfl | rfl
     ·exact OW hT hE l h1
     ·exact OW hT hE l h2)
   ·split at h
    ·rename_i id kt vt l0 hit
     obtain ⟨h1, h2⟩ := as1 h
     exact PL.GR hg ((aAE hit).mono fun s' e => by
      rcases e with ⟨e, rfl⟩ | ⟨u, q, v, e, rfl⟩
      ·exact OW hT hE l (h1 e)
      ·exact OW hT hE l (h2 u q v e))
    ·exact plain h
end
end
section
section
variable {L L' : bF} {x : TV}
theorem TV.FM (h : ∀ i ∈ x.ids, L i = L' i) : x.data L = x.data L' := by
 cases x with
 | row id => simp only [TV.data, h id (by simp [TV.ids])]
 | iP id a b => simp only [TV.data, h id (by simp [TV.ids])]
 | dv t y => cases t <;> rfl
 | _ => rfl
theorem TV.Rh (h : ∀ i ∈ x.ids, L i = L' i) : x.lM L = x.lM L' := by
 cases x with
 | row id => simp only [TV.lM, h id (by simp [TV.ids])]
 | iP id a b => simp only [TV.lM, h id (by simp [TV.ids])]
 | dv t y => cases t <;> rfl
 | _ => rfl
theorem Ov (h : ∀ i ∈ x.ids, L i = L' i) (t : DT) : wK L x t = wK L' x t := by
 cases t <;> simp only [wK, I4, TV.Rh h]
theorem TV.tC (h : ∀ i ∈ x.ids, L i = L' i) (t : DT) : x.as L t = x.as L' t := by
 cases x with
 | row id => simp only [TV.as]; exact Ov h t
 | iP id a b => simp only [TV.as]; exact Ov h t
 | dv u y => simp only [TV.as]; split <;> first | rfl | exact Ov h t
 | _ => rfl
theorem TV.Jf (h : ∀ i ∈ x.ids, L i = L' i) : x.one' L = x.one' L' := by
 cases x with
 | row id => simp only [TV.one', h id (by simp [TV.ids])]
 | ptr id i p => simp only [TV.one', h id (by simp [TV.ids])]
 | _ => rfl
theorem TV.aw7 (h : ∀ i ∈ x.ids, L i = L' i) (d : TD) (z : Int) : x.idx d L z = x.idx d L' z := by
 cases x with
 | view id i p k n a b => simp only [TV.idx, h id (by simp [TV.ids])]
 | row id => simp only [TV.idx, h id (by simp [TV.ids])]
 | iP id a b => simp only [TV.idx, h id (by simp [TV.ids])]
 | ptr id i p => simp only [TV.idx, h id (by simp [TV.ids])]
 | dv t y => cases t <;> rfl
 | _ => rfl
theorem TV.auY (h : ∀ i ∈ x.ids, L i = L' i) (d : TD) (k : Nat) : x.iH d L k = x.iH d L' k := by
 cases x with
 | ptr id i p => simp only [TV.iH, h id (by simp [TV.ids])]
 | _ => rfl
theorem TV.ayC (h : ∀ i ∈ x.ids, L i = L' i) (d : TD) : x.ld d L = x.ld d L' := by
 cases x with
 | ptr id i p => simp only [TV.ld, h id (by simp [TV.ids])]
 | _ => rfl
theorem ayG (h : ∀ i ∈ x.ids, L i = L' i) (d : TD) : JU L d x = JU L' d x := by
 cases x with
 | row id => simp only [JU, h id (by simp [TV.ids])]
 | iP id a b => simp only [JU, TV.FM h]
 | dv t y => cases t <;> rfl
 | _ => rfl
theorem axD : x.isNil L = x.isNil L' := by cases x <;> rfl
theorem arJ (TI : Nat -> TD) (op : BinOp) (T : Nat) (y : TV) : MQ TI L op T x y = MQ TI L' op T x y := by
 unfold MQ
 split <;> first | rfl | (simp only [axD (L := L) (L' := L')])
end
structure jZ (o : Oper) (ev : Operand -> TV) (L L' : bF) (R : List Nat) : Prop where
 ops : ∀ x ∈ opsOf o.op, ∀ i ∈ (ev x).ids, i ∈ R
 cl : ∀ i ∈ R, ∀ ob, L i = some ob -> ∀ j ∈ ob.ids, j ∈ R
 dst : ∀ d, o.dst = some d -> d ∈ R /\ 2000000 + d ∈ R
 eq : ∀ i ∈ R, L i = L' i
section
variable {o : Oper} {ev : Operand -> TV} {L L' : bF} {R : List Nat}
theorem jZ.at (h : jZ o ev L L' R) {x : Operand} (hx : x ∈ opsOf o.op) : ∀ i ∈ (ev x).ids, L i = L' i := fun i hi => h.eq i (h.ops x hx i hi)
theorem aG2 (h : jZ o ev L L' R) (TI : Nat -> TD) : iO TI ev L o.op = iO TI ev L' o.op := by
 have hat := @jZ.at _ _ _ _ _ h
 generalize o.op = op at hat
 cases op with
 | nilCheck x =>
  have := hat (x := x) (by simp [opsOf, Op.operands])
  simp only [iO]
  split <;> first | rfl | (rename_i id i p he; rw [he] at this; simp only [this id (by simp [TV.ids])])
 | binOp op t x y u => simp only [iO]; exact arJ _ _ _ _
 | load T p => simp only [iO, TV.ayC (hat (x := p) (by simp [opsOf, Op.operands]))]
 | indexAddr T x i => simp only [iO, TV.aw7 (hat (x := x) (by simp [opsOf, Op.operands]))]
 | fieldAddr T x i => simp only [iO, TV.auY (hat (x := x) (by simp [opsOf, Op.operands]))]
 | call c =>
  obtain ⟨callee, args, ats⟩ := c
  simp only [iO]
  split
  ·rename_i x T hx ht
   have ha : args = #[x] := by apply Array.ext'; simpa using hx
   subst ha
   rw [ayG (hat (x := x) (by simp [opsOf, Op.operands, Call.operands]))]
  ·rfl
 | _ => rfl
theorem aqZ : ∀ {t : DT} {fs : List TV}, (∀ x ∈ fs, ∀ i ∈ x.ids, L i = L' i) -> uN L t fs = uN L' t fs := by
 intro t
 induction t with
 | pair a b iha ihb =>
  intro fs h
  cases fs with
  | nil => rfl
  | cons x r => simp only [uN, TV.tC (h x (by simp)), ihb (fs := r) fun y hy => h y (by simp [hy])]
 | _ => intro fs h; cases fs <;> rfl
theorem aGM (h : jZ o ev L L' R) (TI : Nat -> TD) (TY : Nat -> DT) : oD TI TY ev L o.op = oD TI TY ev L' o.op := by
 have hat := @jZ.at _ _ _ _ _ h
 have hops := h.ops
 have hcl := h.cl
 have heq := h.eq
 generalize o.op = op at hat hops
 cases op with
 | slice T x lo hi mx =>
  have hx := hat (x := x) (by simp [opsOf, Op.operands])
  simp only [oD]
  split
  ·split
   ·rename_i id he; rw [he] at hx; simp only [hx id (by simp [TV.ids])]
   ·rename_i id i j he; rw [he] at hx; simp only [hx id (by simp [TV.ids])]
   ·rename_i id i p he; rw [he] at hx; simp only [hx id (by simp [TV.ids])]
   ·rfl
   ·rfl
   ·rw [TV.Rh hx]
  ·rw [TV.Rh hx]
  ·rfl
 | load T p =>
  have hx := hat (x := p) (by simp [opsOf, Op.operands])
  have ho := hops p (by simp [opsOf, Op.operands])
  simp only [oD]
  split
  ·rename_i id i he
   rw [he] at hx ho
   rw [<- hx id (by simp [TV.ids])]
   split
   ·rename_i fs hfs
    rw [aqZ (L := L) (L' := L') fun x hxm i hi => heq i (hcl id (ho id (by simp [TV.ids])) _ hfs i (by simp only [TO.ids, List.mem_flatMap]; exact ⟨x, hxm, hi⟩))]
   ·rfl
  ·rfl
 | typeAssert x X T ok => cases ok <;> rfl
 | _ => rfl
theorem acJ {t : DT} : ∀ {xs : List Operand}, (∀ x ∈ xs, ∀ i ∈ (ev x).ids, L i = L' i) -> yZ ev L t xs = yZ ev L' t xs
 | [], _ => rfl
 | x :: r, h => by simp only [yZ, TV.tC (h x (by simp)), acJ (xs := r) fun y hy => h y (by simp [hy])]
theorem alP {t : DT} {d : TD} : ∀ {xs : List (Nat × Operand)} {z : t.den}, (∀ x ∈ xs, ∀ i ∈ (ev x.2).ids, L i = L' i) -> zQ ev L t d xs z = zQ ev L' t d xs z
 | [], z, _ => rfl
 | (i, x) :: r, z, h => by
  simp only [zQ]
  split
  ·rename_i N hN
   have e := TV.tC (h (i, x) (by simp)) N.u
   simp only at e
   rw [e]
   split
   ·rename_i y b hy
    split
    ·rw [alP (xs := r) fun y hy => h y (by simp [hy])]
    ·rfl
   ·rfl
  ·rfl
theorem aC5 {x : TV} (h : ∀ i ∈ x.ids, L i = L' i) (ob : TO) (i : Nat) (p : List Nat) (d : TD) : ob.EO L i p x d = ob.EO L' i p x d := by
 cases ob with
 | row t l => simp only [TO.EO, TV.tC h]
 | aV fs =>
  cases p with
  | nil => rfl
  | cons j p =>
   simp only [TO.EO]
   split
   ·cases p with
    | nil => simp only [TV.Jf h, TV.tC h]
    | cons q p => simp only [TV.tC h]
   ·rfl
 | _ => rfl
theorem aED (TI : Nat -> TD) (TY : Nat -> DT) {d T : Nat} {x y : TV} (hd : L d = L' d) (hx : ∀ i ∈ x.ids, L i = L' i) (hy : ∀ i ∈ y.ids, L i = L' i) : KI TI TY ev L d T x y = KI TI TY ev L' d T x y := by
 unfold KI
 rw [hd]
 split
 ·rfl
 ·split
  ·rename_i id; simp only [hx id (by simp [TV.ids]), TV.FM hy]
  ·simp only [TV.FM hy]
  ·simp only [TV.FM hy]
  ·rfl
theorem aGQ (h : jZ o ev L L' R) (TI : Nat -> TD) (TY : Nat -> DT) (rc : Nat -> Option (List (Option DT))) : jX TI TY rc ev L o.dst o.op = jX TI TY rc ev L' o.dst o.op := by
 have hat := @jZ.at _ _ _ _ _ h
 have hdst : ∀ d, o.dst = some d -> L d = L' d := fun d hd => h.eq d (h.dst d hd).1
 have afC : ∀ d, o.dst = some d -> L (2000000 + d) = L' (2000000 + d) := fun d hd => h.eq _ (h.dst d hd).2
 generalize o.op = op at hat
 generalize o.dst = dst at hdst afC
 cases op with
 | alloc T =>
  cases dst with
  | none => rfl
  | some d => simp only [jX, hdst d rfl, afC d rfl]
 | box T x =>
  have hx := hat (x := x) (by simp [opsOf, Op.operands])
  cases dst with
  | none => rfl
  | some d => simp only [jX, hdst d rfl, TV.Jf hx, TV.tC hx]
 | buildSlice T n parts =>
  have hx := fun x => hat (x := x)
  cases dst with
  | none => rfl
  | some d =>
   simp only [jX]
   split
   ·rename_i d' t hd' hT
    obtain rfl := aC hd'
    rw [hdst d rfl, acJ (L := L) (L' := L') fun x hxm => hx x (by simpa [opsOf, Op.operands] using hxm)]
   ·rfl
 | makeSlice T x y =>
  cases dst with
  | none => rfl
  | some d =>
   simp only [jX]
   split
   ·rename_i d' _ _ _ _ hd' _ _
    obtain rfl := aC hd'
    rw [hdst d rfl]
   ·rfl
 | build T parts =>
  simp only [jX]
  rw [alP (L := L) (L' := L') fun x hxm => hat (x := x.2) (by simp only [opsOf, Op.operands]; exact List.mem_map_of_mem hxm)]
 | store T p y =>
  have hp := hat (x := p) (by simp [opsOf, Op.operands])
  have hy := hat (x := y) (by simp [opsOf, Op.operands])
  simp only [jX]
  split
  ·rename_i id i q he
   rw [he] at hp
   rw [hp id (by simp [TV.ids])]
   split
   ·rw [aC5 hy]
   ·rfl
  ·rfl
 | call c =>
  obtain ⟨callee, args, ats⟩ := c
  cases dst with
  | none => simp only [jX]
  | some d =>
   simp only [jX]
   split
   ·rename_i d' x y T T' hd' hxs hts
    obtain rfl := aC hd'
    have ha : args = #[x, y] := by apply Array.ext'; simpa using hxs
    subst ha
    rw [aED (ev := ev) (L := L) (L' := L') TI TY (hdst d rfl) (hat (x := x) (by simp [opsOf, Op.operands, Call.operands])) (hat (x := y) (by simp [opsOf, Op.operands, Call.operands]))]
   ·rfl
 | _ => rfl
theorem aEM (h : jZ o ev L L' R) (E : Env) : rH E ev L o.dst o.op = rH E ev L' o.dst o.op := by
 have hat := @jZ.at _ _ _ _ _ h
 have hdst : ∀ d, o.dst = some d -> L d = L' d := fun d hd => h.eq d (h.dst d hd).1
 generalize o.op = op at hat
 generalize o.dst = dst at hdst
 cases op with
 | call c =>
  obtain ⟨callee, args, ats⟩ := c
  simp only [rH]
  split
  ·rename_i d x y T T' hxs hts
   have ha : args = #[x, y] := by apply Array.ext'; simpa using hxs
   subst ha
   rw [hdst d rfl, TV.FM (hat (x := y) (by simp [opsOf, Op.operands, Call.operands]))]
  ·rfl
 | box T x =>
  have hx := hat (x := x) (by simp [opsOf, Op.operands])
  simp only [rH, TV.tC hx]
 | assign x => simp only [rH]
 | slice T x lo hi mx =>
  have hx := hat (x := x) (by simp [opsOf, Op.operands])
  simp only [rH]
  unfold U9
  split
  ·rename_i d
   rw [hdst d rfl]
   split
   ·split
    ·rename_i id a b h1 h2 h3 h4
     rw [h2] at hx
     rw [hx id (by simp [TV.ids])]
    ·rfl
   ·rfl
  ·rfl
 | _ => rfl
theorem alY {d : TD} : ∀ {r : List (Nat × Operand)} {l : List TV}, (∀ x ∈ r, ∀ i ∈ (ev x.2).ids, L i = L' i) -> zS ev L d r l = zS ev L' d r l
 | [], l, _ => rfl
 | (i, x) :: r, l, h => by
  have e : CX L (ev x) = CX L' (ev x) := by
   have hx := h (i, x) (by simp)
   simp only at hx
   cases hv : ev x with
   | dv t y => rfl
   | _ => simp only [CX]; rw [hv] at hx; exact TV.Jf hx
  simp only [zS, e]
  split
  ·split
   ·exact alY fun y hy => h y (by simp [hy])
   ·rfl
  ·rfl
theorem aCQ {x : TV} (h : ∀ i ∈ x.ids, L i = L' i) : CX L x = CX L' x := by
 cases hv : x with
 | dv t y => rfl
 | _ => simp only [CX]; rw [hv] at h; exact TV.Jf h
theorem aCO {x : TV} (h : ∀ i ∈ x.ids, L i = L' i) : J7 L x = J7 L' x := by
 have e := aCQ h
 cases x with
 | st n f => rfl
 | _ => simp only [J7, e]
theorem alV {d : TD} : ∀ {r : List (Nat × Operand)} {l : List TV}, (∀ x ∈ r, ∀ i ∈ (ev x.2).ids, L i = L' i) -> zT ev L d r l = zT ev L' d r l
 | [], l, _ => rfl
 | (i, x) :: r, l, h => by
  have e : J7 L (ev x) = J7 L' (ev x) := aCO (h (i, x) (by simp))
  simp only [zT, e]
  split
  ·split
   ·split
    ·split
     ·exact alV fun y hy => h y (by simp [hy])
     ·rfl
    ·rfl
   ·rfl
  ·rfl
theorem aGS {d : TD} {r : List (Nat × Operand)} {l : List TV} (h : ∀ x ∈ r, ∀ i ∈ (ev x.2).ids, L i = L' i) : EW ev L d r l = EW ev L' d r l := by
 unfold EW; rw [alY h, alV h]
theorem aDY {d : TD} {x : TV} (h : ∀ i ∈ x.ids, L i = L' i) : KG d L x = KG d L' x := by
 unfold KG
 split
 ·rename_i id i; rw [h id (by simp [TV.ids])]
 ·rfl
theorem aGV (h : jZ o ev L L' R) (TI : Nat -> TD) (TY : Nat -> DT) (rc : Nat -> Option (List (Option DT))) : tst TI TY rc ev L o.dst o.op = tst TI TY rc ev L' o.dst o.op := by
 have hat := @jZ.at _ _ _ _ _ h
 have hdst : ∀ d, o.dst = some d -> L d = L' d := fun d hd => h.eq d (h.dst d hd).1
 generalize o.op = op at hat
 generalize o.dst = dst at hdst
 cases op with
 | build T parts =>
  simp only [tst]
  split
  ·split
   ·rw [aGS (L := L) (L' := L') fun x hxm => hat (x := x.2) (by simp only [opsOf, Op.operands]; exact List.mem_map_of_mem hxm)]
   ·rfl
  ·rfl
 | store T p y =>
  have hp := hat (x := p) (by simp [opsOf, Op.operands])
  simp only [tst]
  split
  ·rename_i id i n f he he2
   rw [he] at hp
   rw [hp id (by simp [TV.ids])]
  ·rfl
 | buildSlice T n parts =>
  simp only [tst]
  split
  ·rename_i d; rw [hdst d rfl]
  ·rfl
 | load T p =>
  have hp := hat (x := p) (by simp [opsOf, Op.operands])
  simp only [tst, aDY hp]
 | box T x =>
  simp only [tst]
  split
  ·rename_i d n f he
   rw [hdst d rfl]
  ·rfl
 | call c =>
  obtain ⟨callee, args, ats⟩ := c
  simp only [tst]
  split
  ·rfl
  ·split
   ·rename_i d _ _ _ _ _ _
    rw [hdst d rfl]
   ·rfl
  ·rename_i x T hxs hts
   have ha : args = #[x] := by apply Array.ext'; simpa using hxs
   subst ha
   have hx := hat (x := x) (by simp [opsOf, Op.operands, Call.operands])
   split
   ·rename_i id i j he
    rw [he] at hx
    rw [hx id (by simp [TV.ids])]
   ·rfl
  ·rename_i x T hxs hts
   have ha : args = #[x] := by apply Array.ext'; simpa using hxs
   subst ha
   have hx := hat (x := x) (by simp [opsOf, Op.operands, Call.operands])
   split
   ·rename_i id i p k n i1 j1 he
    rw [he] at hx
    rw [hx id (by simp [TV.ids])]
   ·rfl
  ·rfl
 | indexAddr T x y =>
  have hx := hat (x := x) (by simp [opsOf, Op.operands])
  simp only [tst]
  have : ∀ z, PD (TI T) L z (ev x) = PD (TI T) L' z (ev x) := fun z => by
   unfold PD
   split
   ·rename_i id i p k n i1 j1 he
    rw [he] at hx
    rw [hx id (by simp [TV.ids])]
   ·rfl
  simp only [this]
 | _ => rfl
theorem aEI {TI : Nat -> TD} {T : Nat} {x y : TV} (hx : ∀ i ∈ x.ids, L i = L' i) (hy : ∀ i ∈ y.ids, L i = L' i) : U7 TI L T x y = U7 TI L' T x y := rfl
theorem aGE (h : jZ o ev L L' R) (TI : Nat -> TD) : kZ TI ev L o.dst o.op = kZ TI ev L' o.dst o.op := by
 have hat := @jZ.at _ _ _ _ _ h
 have hdst : ∀ d, o.dst = some d -> L d = L' d := fun d hd => h.eq d (h.dst d hd).1
 generalize o.op = op at hat
 generalize o.dst = dst at hdst
 cases op with
 | makeMap T r =>
  cases dst with
  | none => rfl
  | some d =>
   simp only [kZ]
   cases (TI T).qM with
   | none => rfl
   | some kv => obtain ⟨kt, vt⟩ := kv; simp only [hdst d rfl]
 | lookup T m ix ok =>
  have hm := hat (x := m) (by simp [opsOf, Op.operands])
  simp only [kZ]
  split
  ·rename_i id he
   rw [he] at hm
   rw [hm id (by simp [TV.ids])]
   split
   ·rw [TV.tC (hat (x := ix) (by simp [opsOf, Op.operands]))]
   ·rfl
  ·rfl
 | mapUpdate T m k y =>
  have hm := hat (x := m) (by simp [opsOf, Op.operands])
  simp only [kZ]
  split
  ·rename_i id he
   rw [he] at hm
   rw [hm id (by simp [TV.ids])]
   split
   ·rw [TV.tC (hat (x := k) (by simp [opsOf, Op.operands])), TV.tC (hat (x := y) (by simp [opsOf, Op.operands]))]
   ·rfl
  ·rfl
 | range T m =>
  have hm := hat (x := m) (by simp [opsOf, Op.operands])
  simp only [kZ]
  split
  ·rename_i d id he
   rw [he] at hm
   rw [hm id (by simp [TV.ids]), hdst d rfl]
  ·rfl
 | entry x =>
  have hx := hat (x := x) (by simp [opsOf, Op.operands])
  simp only [kZ]
  split
  ·rename_i id he
   rw [he] at hx
   rw [hx id (by simp [TV.ids])]
  ·rfl
 | insert T m k y =>
  have hm := hat (x := m) (by simp [opsOf, Op.operands])
  simp only [kZ]
  split
  ·rename_i id he
   rw [he] at hm
   rw [hm id (by simp [TV.ids])]
   split
   ·rw [TV.tC (hat (x := k) (by simp [opsOf, Op.operands])), TV.tC (hat (x := y) (by simp [opsOf, Op.operands]))]
   ·rfl
  ·rfl
 | call cl =>
  obtain ⟨callee, args, ats⟩ := cl
  simp only [kZ]
  split
  ·rfl
  ·rfl
  ·rename_i x y hxs
   have ha : args = #[x, y] := by apply Array.ext'; simpa using hxs
   subst ha
   split
   ·exact aEI (hat (x := x) (by simp [opsOf, Op.operands, Call.operands])) (hat (x := y) (by simp [opsOf, Op.operands, Call.operands]))
   ·rfl
  ·rfl
 | _ => rfl
theorem aGY (h : jZ o ev L L' R) (TI : Nat -> TD) : sH TI ev L o.dst o.op = sH TI ev L' o.dst o.op := by
 have hat := @jZ.at _ _ _ _ _ h
 have hdst : ∀ d, o.dst = some d -> L d = L' d := fun d hd => h.eq d (h.dst d hd).1
 generalize o.op = op at hat
 generalize o.dst = dst at hdst
 cases op with
 | convert S T x =>
  have hx := hat (x := x) (by simp [opsOf, Op.operands])
  simp only [sH]
  split
  ·cases dst with
   | none => rfl
   | some d => simp only [hdst d rfl]
  ·rw [TV.FM hx]
 | range T x =>
  cases dst with
  | none => simp only [sH]; split <;> first | rfl | contradiction
  | some d =>
   simp only [sH]
   split
   ·rename_i d' _ he
    obtain rfl := aC he
    rw [hdst _ rfl]
   ·rfl
 | call cl =>
  obtain ⟨callee, args, ats⟩ := cl
  simp only [sH]
  split
  ·rename_i m k T r hxs hts
   have ha : args = #[m, k] := by apply Array.ext'; simpa using hxs
   subst ha
   have hm := hat (x := m) (by simp [opsOf, Op.operands, Call.operands])
   split
   ·rename_i id he
    rw [he] at hm
    rw [hm id (by simp [TV.ids])]
    split
    ·rw [TV.tC (hat (x := k) (by simp [opsOf, Op.operands, Call.operands]))]
    ·rfl
   ·rfl
  ·rename_i m T r hxs hts
   have ha : args = #[m] := by apply Array.ext'; simpa using hxs
   subst ha
   have hm := hat (x := m) (by simp [opsOf, Op.operands, Call.operands])
   split
   ·rename_i id he
    rw [he] at hm
    rw [hm id (by simp [TV.ids])]
   ·rfl
  ·rfl
 | _ => rfl
theorem aAC (h : jZ o ev L L' R) : needs ev L o.op = needs ev L' o.op := by
 have hat := @jZ.at _ _ _ _ _ h
 generalize o.op = op at hat
 cases op with
 | store T p y =>
  have hp := hat (x := p) (by simp [opsOf, Op.operands])
  simp only [needs]
  split
  ·rename_i id i q he; rw [he] at hp; simp only [hp id (by simp [TV.ids])]
  ·rfl
 | load T p =>
  have hp := hat (x := p) (by simp [opsOf, Op.operands])
  simp only [needs]
  split
  ·rename_i id i he; rw [he] at hp; simp only [hp id (by simp [TV.ids])]
  ·rfl
 | slice T x lo hi mx =>
  have hp := hat (x := x) (by simp [opsOf, Op.operands])
  simp only [needs]
  split
  ·rename_i id he; rw [he] at hp; simp only [hp id (by simp [TV.ids])]
  ·rfl
 | _ => rfl
theorem yF {x : TV} {i : Nat} (h : i ∈ x.pI) : i ∈ x.ids := by
 cases x <;> first | exact h | simp [TV.pI] at h
theorem aAB (h : jZ o ev L L' R) : ∀ i ∈ needs ev L o.op, i ∈ R := by
 have hops := h.ops
 have hcl := h.cl
 generalize o.op = op at hops
 cases op with
 | buildSlice T n parts =>
  intro i hi
  simp only [needs, List.mem_flatMap] at hi
  obtain ⟨p, hp, hi⟩ := hi
  exact hops p.2 (by simp only [opsOf, Op.operands]; exact List.mem_map_of_mem hp) i (yF hi)
 | build T parts =>
  intro i hi
  simp only [needs, List.mem_flatMap] at hi
  obtain ⟨p, hp, hi⟩ := hi
  exact hops p.2 (by simp only [opsOf, Op.operands]; exact List.mem_map_of_mem hp) i (yF hi)
 | store T p y =>
  have hy := hops y (by simp [opsOf, Op.operands])
  intro i hi
  simp only [needs] at hi
  split at hi
  ·split at hi
   ·split at hi
    ·exact hy i (yF hi)
    ·simp at hi
   ·exact hy i (yF hi)
  ·simp at hi
 | load T p =>
  have hp := hops p (by simp [opsOf, Op.operands])
  intro i hi
  simp only [needs] at hi
  split at hi
  ·rename_i id j he
   rw [he] at hp
   split at hi
   ·rename_i fs hfs
    obtain ⟨x, hx, hi⟩ := List.mem_flatMap.1 hi
    exact hcl id (hp id (by simp [TV.ids])) _ hfs i (by simp only [TO.ids, List.mem_flatMap]; exact ⟨x, hx, yF hi⟩)
   ·simp at hi
  ·simp at hi
 | slice T x lo hg mx =>
  have hp := hops x (by simp [opsOf, Op.operands])
  intro i hi
  simp only [needs] at hi
  split at hi
  ·rename_i id he
   rw [he] at hp
   split at hi
   ·obtain rfl := List.mem_singleton.1 hi; exact hp i (by simp [TV.ids])
   ·simp at hi
  ·simp at hi
 | mapUpdate T m k y =>
  intro i hi
  simp only [needs, List.mem_append] at hi
  rcases hi with hi | hi
  ·exact hops k (by simp [opsOf, Op.operands]) i (yF hi)
  ·exact hops y (by simp [opsOf, Op.operands]) i (yF hi)
 | insert T m k y =>
  intro i hi
  simp only [needs, List.mem_append] at hi
  rcases hi with hi | hi
  ·exact hops k (by simp [opsOf, Op.operands]) i (yF hi)
  ·exact hops y (by simp [opsOf, Op.operands]) i (yF hi)
 | _ => intro i hi; simp [needs] at hi
theorem ae0 {ids : List Nat} (h : ∀ i ∈ ids, L i = L' i) : iZ L ids = iZ L' ids := by
 unfold iZ
 induction ids with
 | nil => rfl
 | cons i r ih =>
  simp only [List.filterMap_cons, h i (by simp)]
  rw [ih fun j hj => h j (by simp [hj])]
theorem aiS {U : List (Nat × TO)} (h : jZ o ev L L' R) (hU : ∀ i ob, aA U i = some ob -> ob.ids = []) : jZ o ev (eX U L) (eX U L') R :=
 ⟨h.ops, fun i hi ob hob j hj => by
  simp only [eX] at hob
  cases hu : aA U i with
  | some o' => rw [hu] at hob; obtain rfl := aC hob; rw [hU i _ hu] at hj; simp at hj
  | none => rw [hu] at hob; exact h.cl i hi ob hob j hj, h.dst, fun i hi => by simp only [eX, h.eq i hi]⟩
theorem aeZ {ids : List Nat} : ∀ i ob, aA (iZ L ids) i = some ob -> ob.ids = [] := fun i ob h => by
 obtain ⟨o0, _, h2⟩ := TF h
 obtain ⟨⟨t, l, _, rfl⟩ | ⟨t, ls, _, rfl⟩, _⟩ := aeY h2 <;> rfl
theorem ak3 {L : bF} {id : Nat} {U : List (Nat × TO)} (h : yG L id = some U) : ∀ p ∈ U, p.2.ids = [] := by
 unfold yG at h
 split at h
 ·split at h
  ·obtain rfl := aC h; intro p hp; cases hp
  ·split at h
   ·split at h
    ·obtain rfl := aC h
     intro p hp
     simp only [List.mem_cons, List.not_mem_nil, or_false] at hp
     rcases hp with rfl | rfl <;> rfl
    ·cases h
   ·cases h
 ·cases h
theorem ak4 {R : List Nat} (hcl : ∀ i ∈ R, ∀ ob, L i = some ob -> ∀ j ∈ ob.ids, j ∈ R) (heq : ∀ i ∈ R, L i = L' i) {id : Nat} (hid : id ∈ R) : yG L id = yG L' id := by
 unfold yG
 rw [<- heq id hid]
 cases ho : L id with
 | none => rfl
 | some ob => cases ob with
  | bD t ls out => cases out with
   | none => rfl
   | some p =>
    have := heq p.2 (hcl id hid _ ho p.2 (by simp [TO.ids]))
    simp only [this]
  | _ => rfl
theorem Yy {L : bF} : ∀ {ids : List Nat}, ∀ p ∈ nO L ids, p.2.ids = []
 | [], p, h => by cases h
 | id :: r, p, h => by
  simp only [nO, List.mem_append] at h
  rcases h with h | h
  ·cases hU : yG (eX (nO L r) L) id with
   | none => rw [hU] at h; cases h
   | some U => rw [hU] at h; exact ak3 hU p h
  ·exact Yy p h
theorem Uf {U : List (Nat × TO)} (h : ∀ p ∈ U, p.2.ids = []) : ∀ i ob, aA U i = some ob -> ob.ids = [] := fun i ob ho => h (i, ob) (vZ ho)
theorem ak2 {R : List Nat} (hcl : ∀ i ∈ R, ∀ ob, L i = some ob -> ∀ j ∈ ob.ids, j ∈ R) (heq : ∀ i ∈ R, L i = L' i) : ∀ {ids : List Nat}, (∀ i ∈ ids, i ∈ R) -> nO L ids = nO L' ids
 | [], _ => rfl
 | id :: r, h => by
  have ih := ak2 hcl heq (ids := r) fun i hi => h i (by simp [hi])
  simp only [nO]
  rw [ih]
  have hU : ∀ i ob, aA (nO L' r) i = some ob -> ob.ids = [] := Uf Yy
  rw [ak4 (L := eX (nO L' r) L) (L' := eX (nO L' r) L') (R := R) (fun i hi ob hob j hj => by
   simp only [eX] at hob
   cases hu : aA (nO L' r) i with
   | some o' => rw [hu] at hob; obtain rfl := aC hob; rw [hU i _ hu] at hj; simp at hj
   | none => rw [hu] at hob; exact hcl i hi ob hob j hj) (fun i hi => by simp only [eX, heq i hi]) (h id (by simp))]
theorem Ky (h : jZ o ev L L' R) (TI : Nat -> TD) (TY : Nat -> DT) (fz : Nat -> Bool) : jP TI TY fz ev L o.dst o.op = jP TI TY fz ev L' o.dst o.op := by
 have hat := @jZ.at _ _ _ _ _ h
 have hdst : ∀ d, o.dst = some d -> L d = L' d := fun d hd => h.eq d (h.dst d hd).1
 generalize o.op = op at hat
 generalize o.dst = dst at hdst
 cases op with
 | makeSlice T l c =>
  simp only [jP]
  split
  ·rename_i d k1 zl k2 zc t _ _ _
   rw [hdst d rfl]
  ·rfl
 | indexAddr T x ix =>
  have hx := hat (x := x) (by simp [opsOf, Op.operands])
  simp only [jP]
  split
  ·rename_i id k z he _
   rw [he] at hx
   rw [hx id (by simp [TV.ids])]
  ·rfl
 | load T p =>
  have hx := hat (x := p) (by simp [opsOf, Op.operands])
  simp only [jP]
  split
  ·rename_i d id i he
   rw [he] at hx
   rw [hx id (by simp [TV.ids]), hdst d rfl]
  ·rfl
 | store T p y =>
  have hx := hat (x := p) (by simp [opsOf, Op.operands])
  have hy := hat (x := y) (by simp [opsOf, Op.operands])
  simp only [jP]
  split
  ·rename_i id i r he he2
   rw [he] at hx
   rw [he2] at hy
   rw [hx id (by simp [TV.ids]), hy r (by simp [TV.ids])]
  ·rfl
 | buildSlice T n parts =>
  simp only [jP]
  split
  ·rename_i d t x _ hp
   have hmem : ((0, x) : Nat × Operand) ∈ parts.toList := by rw [hp]; simp
   have hx := hat (x := x) (by simp only [opsOf, Op.operands]; exact List.mem_map_of_mem hmem)
   rw [hdst d rfl]
   split
   ·split
    ·rename_i r _ he
     rw [he] at hx
     rw [hx r (by simp [TV.ids])]
    ·rfl
   ·rfl
  ·rfl
 | call cl =>
  obtain ⟨callee, args, ats⟩ := cl
  simp only [jP]
  split
  ·rename_i d x y T T' hxs hts
   have ha : args = #[x, y] := by apply Array.ext'; simpa using hxs
   subst ha
   have hx := hat (x := x) (by simp [opsOf, Op.operands, Call.operands])
   have hy := hat (x := y) (by simp [opsOf, Op.operands, Call.operands])
   split
   ·split
    ·rename_i m he
     rw [he] at hy
     rw [hy m (by simp [TV.ids]), hdst d rfl]
     split
     ·split
      ·rfl
      ·rename_i id he2
       rw [he2] at hx
       rw [hx id (by simp [TV.ids])]
      ·rfl
     ·rfl
    ·rfl
   ·rfl
  ·rename_i x T hxs hts
   have ha : args = #[x] := by apply Array.ext'; simpa using hxs
   subst ha
   have hx := hat (x := x) (by simp [opsOf, Op.operands, Call.operands])
   split
   ·rename_i id he
    rw [he] at hx
    rw [hx id (by simp [TV.ids])]
   ·rfl
  ·rfl
 | _ => rfl
theorem aEG (h : jZ o ev L L' R) (TI : Nat -> TD) : DD TI ev L o.dst o.op = DD TI ev L' o.dst o.op := by
 have hat := @jZ.at _ _ _ _ _ h
 have hops := h.ops
 have hcl := h.cl
 have heq := h.eq
 generalize o.op = op at hat hops
 generalize o.dst = dst
 cases op with
 | store T p y =>
  have hx := hat (x := p) (by simp [opsOf, Op.operands])
  have hp := hops p (by simp [opsOf, Op.operands])
  have hy := hat (x := y) (by simp [opsOf, Op.operands])
  simp only [DD]
  split
  ·rename_i id i r he he2
   rw [he] at hx hp
   rw [he2] at hy
   have hid : id ∈ R := hp id (by simp [TV.ids])
   rw [<- hy r (by simp [TV.ids]), <- hx id (by simp [TV.ids])]
   cases ho : L id with
   | none => rfl
   | some ob => cases ob with
    | bD t ls out => cases out with
     | none => rfl
     | some q =>
      obtain ⟨j, r0⟩ := q
      have := heq r0 (hcl id hid _ ho r0 (by simp [TO.ids]))
      cases hr : L r with
      | none => rfl
      | some ob2 => cases ob2 with
       | row t' l => simp only [this]
       | _ => rfl
    | _ => rfl
  ·rfl
 | _ => rfl
theorem azT {x : TV} (h : ∀ i ∈ x.ids, L i = L' i) : x.sF L = x.sF L' := by
 cases x with
 | row id => simp only [TV.sF, h id (by simp [TV.ids])]
 | ptr id i p => cases p with
  | nil => simp only [TV.sF, h id (by simp [TV.ids])]
  | cons j p => rfl
 | _ => rfl
theorem azS {x : TV} {i : Nat} (h : i ∈ x.sF L) : i ∈ x.ids := by
 cases x with
 | row id =>
  simp only [TV.sF] at h
  split at h
  ·simpa [TV.ids] using h
  ·cases h
 | ptr id k p => cases p with
  | nil =>
   simp only [TV.sF] at h
   split at h
   ·simpa [TV.ids] using h
   ·cases h
  | cons j p => cases h
 | _ => cases h
theorem aGJ (h : jZ o ev L L' R) (TI : Nat -> TD) (TY : Nat -> DT) (fz : Nat -> Bool) : EU TI TY fz ev L o.dst o.op = EU TI TY fz ev L' o.dst o.op := by
 unfold EU
 rw [aEG h]
 have hat := @jZ.at _ _ _ _ _ h
 have e : (o.op.operands.toList.flatMap fun x => (ev x).sF L) = o.op.operands.toList.flatMap fun x => (ev x).sF L' := by
  have : ∀ (l : List Operand), (∀ x ∈ l, x ∈ opsOf o.op) -> (l.flatMap fun x => (ev x).sF L) = l.flatMap fun x => (ev x).sF L' := by
   intro l
   induction l with
   | nil => intro _; rfl
   | cons x l ih => intro hl; simp only [List.flatMap_cons, azT (hat (hl x (by simp))), ih fun y hy => hl y (by simp [hy])]
  exact this _ fun x hx => hx
 have hin : ∀ i ∈ (o.op.operands.toList.flatMap fun x => (ev x).sF L), i ∈ R := fun i hi => by
  obtain ⟨x, hx, hi⟩ := List.mem_flatMap.1 hi
  exact h.ops x hx i (azS hi)
 rw [<- e]
 split
 ·rfl
 ·split
  ·exact Ky h TI TY fz
  split
  ·exact Ky h TI TY fz
  ·rename_i id hl
   rw [hl] at hin
   rw [<- ak4 h.cl h.eq (hin id (by simp))]
   split
   ·rename_i U hU
    have h3 : jZ o ev (Jh U L) (Jh U L') R := aiS h (Uf (ak3 hU))
    rw [Ky h3]
   ·rfl
  ·rfl
theorem aGH (h : jZ o ev L L' R) (E : Env) : G6 E ev L o.dst o.op = G6 E ev L' o.dst o.op := by
 have key := Ky h E.TI E.TY E.fz
 unfold G6
 split
 ·rename_i he hd
  rw [he, hd] at key
  rw [key]
 ·rename_i he hd
  rw [he, hd] at key
  rw [key]
 ·rfl
theorem as4 (h : jZ o ev L L' R) (E : Env) : zB E o ev L = zB E o ev L' := by
 unfold zB
 have h1 := aAC h
 have h2 := ae0 (L := L) (L' := L') (ids := needs ev L o.op) fun i hi => h.eq i (aAB h i hi)
 rw [h1] at h2
 simp only [aGV h, h1, h2]
 have h3 : jZ o ev (eX (iZ L' (needs ev L' o.op)) L) (eX (iZ L' (needs ev L' o.op)) L') R := aiS h aeZ
 rw [aG2 h3, aGM h3, aEM h3, aGQ h3, aGE h3, aGY h3, aGH h, aGJ h]
end
end
section
section
variable {ev ev' : Operand -> TV} {L : bF}
theorem acI {t : DT} : ∀ {xs : List Operand}, (∀ x ∈ xs, ev x = ev' x) -> yZ ev L t xs = yZ ev' L t xs
 | [], _ => rfl
 | x :: r, h => by simp only [yZ, h x (by simp), acI (xs := r) fun y hy => h y (by simp [hy])]
theorem alO {t : DT} {d : TD} : ∀ {xs : List (Nat × Operand)} {z : t.den}, (∀ x ∈ xs, ev x.2 = ev' x.2) -> zQ ev L t d xs z = zQ ev' L t d xs z
 | [], z, _ => rfl
 | (i, x) :: r, z, h => by
  have e : ev x = ev' x := h (i, x) (by simp)
  simp only [zQ, e]
  split
  ·split
   ·split
    ·rw [alO (xs := r) fun y hy => h y (by simp [hy])]
    ·rfl
   ·rfl
  ·rfl
theorem JG {o : Option Operand} (h : ∀ x ∈ o.toList, ev x = ev' x) : kG ev o = kG ev' o := by
 cases o with
 | none => rfl
 | some x => simp only [kG, h x (by simp)]
theorem aG1 (TI : Nat -> TD) {op : Op} (h : ∀ x ∈ opsOf op, ev x = ev' x) : iO TI ev L op = iO TI ev' L op := by
 cases op with
 | call c =>
  obtain ⟨callee, args, ats⟩ := c
  simp only [iO]
  split
  ·rename_i x T hx ht
   have ha : args = #[x] := by apply Array.ext'; simpa using hx
   subst ha
   rw [h x (by simp [opsOf, Op.operands, Call.operands])]
  ·rfl
 | makeFunc fn first caps =>
  have e : (first ++ caps).toList.map ev = (first ++ caps).toList.map ev' := List.map_congr_left fun x hx => h x hx
  simp only [iO, e]
 | move x => simp only [iO, h x (by simp [opsOf, Op.operands])]
 | assign x => simp only [iO, h x (by simp [opsOf, Op.operands])]
 | nilCheck x => simp only [iO, h x (by simp [opsOf, Op.operands])]
 | binOp op t x y u => simp only [iO, h x (by simp [opsOf, Op.operands]), h y (by simp [opsOf, Op.operands])]
 | unOp op t x => simp only [iO, h x (by simp [opsOf, Op.operands])]
 | convert s d x => simp only [iO, h x (by simp [opsOf, Op.operands])]
 | extract x i => simp only [iO, h x (by simp [opsOf, Op.operands])]
 | load T x => simp only [iO, h x (by simp [opsOf, Op.operands])]
 | indexAddr T x y => simp only [iO, h x (by simp [opsOf, Op.operands]), h y (by simp [opsOf, Op.operands])]
 | fieldAddr T x y => simp only [iO, h x (by simp [opsOf, Op.operands])]
 | index T x y => simp only [iO, h x (by simp [opsOf, Op.operands]), h y (by simp [opsOf, Op.operands])]
 | _ => rfl
theorem aGL (TI : Nat -> TD) (TY : Nat -> DT) {op : Op} (h : ∀ x ∈ opsOf op, ev x = ev' x) : oD TI TY ev L op = oD TI TY ev' L op := by
 cases op with
 | slice T x lo hi mx =>
  have h1 : kG ev lo = kG ev' lo := JG fun y hy => h y (by simp [opsOf, Op.operands] at hy ⊢; simp [hy])
  have h2 : kG ev hi = kG ev' hi := JG fun y hy => h y (by simp [opsOf, Op.operands] at hy ⊢; simp [hy])
  have h3 : kG ev mx = kG ev' mx := JG fun y hy => h y (by simp [opsOf, Op.operands] at hy ⊢; simp [hy])
  simp only [oD, h1, h2, h3, h x (by simp [opsOf, Op.operands])]
 | load T x => simp only [oD, h x (by simp [opsOf, Op.operands])]
 | makeInterface T x => simp only [oD, h x (by simp [opsOf, Op.operands])]
 | nilCheck x => simp only [oD, h x (by simp [opsOf, Op.operands])]
 | fieldAddr T x i => simp only [oD, h x (by simp [opsOf, Op.operands])]
 | binOp op T x y yt => simp only [oD, h x (by simp [opsOf, Op.operands]), h y (by simp [opsOf, Op.operands])]
 | typeAssert x X T ok =>
  cases ok with
  | false => rfl
  | true => simp only [oD, h x (by simp [opsOf, Op.operands])]
 | _ => rfl
theorem aEC (TI : Nat -> TD) (TY : Nat -> DT) (d T : Nat) (x y : TV) : KI TI TY ev L d T x y = KI TI TY ev' L d T x y := rfl
theorem aGP (TI : Nat -> TD) (TY : Nat -> DT) (rc : Nat -> Option (List (Option DT))) {dst : Option Nat} {op : Op} (h : ∀ x ∈ opsOf op, ev x = ev' x) : jX TI TY rc ev L dst op = jX TI TY rc ev' L dst op := by
 cases op with
 | call c =>
  obtain ⟨callee, args, ats⟩ := c
  simp only [jX]
  split
  ·rename_i x y T T' hx ht
   have ha : args = #[x, y] := by apply Array.ext'; simpa using hx
   subst ha
   rw [h x (by simp [opsOf, Op.operands, Call.operands]), h y (by simp [opsOf, Op.operands, Call.operands]), aEC (ev' := ev')]
  ·rfl
 | box T x => simp only [jX, h x (by simp [opsOf, Op.operands])]
 | buildSlice T n parts =>
  simp only [jX]
  split
  ·rw [acI (ev' := ev') fun x hx => h x (by simpa [opsOf, Op.operands] using hx)]
  ·rfl
 | makeSlice T x y => simp only [jX, h x (by simp [opsOf, Op.operands]), h y (by simp [opsOf, Op.operands])]
 | build T parts =>
  simp only [jX]
  rw [alO (ev' := ev') fun x hx => h x.2 (by simp only [opsOf, Op.operands]; exact List.mem_map_of_mem hx)]
 | store T x y => simp only [jX, h x (by simp [opsOf, Op.operands]), h y (by simp [opsOf, Op.operands])]
 | _ => rfl
theorem aEL (E : Env) {dst : Option Nat} {op : Op} (h : ∀ x ∈ opsOf op, ev x = ev' x) : rH E ev L dst op = rH E ev' L dst op := by
 cases op with
 | call c =>
  obtain ⟨callee, args, ats⟩ := c
  simp only [rH]
  split
  ·rename_i x y T T' hx ht
   have ha : args = #[x, y] := by apply Array.ext'; simpa using hx
   subst ha
   rw [h x (by simp [opsOf, Op.operands, Call.operands]), h y (by simp [opsOf, Op.operands, Call.operands])]
  ·rfl
 | box T x => simp only [rH, h x (by simp [opsOf, Op.operands])]
 | assign x => simp only [rH, h x (by simp [opsOf, Op.operands])]
 | slice T x lo hi mx =>
  have h0 : ev x = ev' x := h x (by simp [opsOf, Op.operands])
  have h1 : kG ev lo = kG ev' lo := JG fun y hy => h y (by simp [opsOf, Op.operands] at hy ⊢; simp [hy])
  have h2 : kG ev hi = kG ev' hi := JG fun y hy => h y (by simp [opsOf, Op.operands] at hy ⊢; simp [hy])
  simp only [rH, U9, h0, h1, h2]
 | _ => rfl
theorem aGD (TI : Nat -> TD) {dst : Option Nat} {op : Op} (h : ∀ x ∈ opsOf op, ev x = ev' x) : kZ TI ev L dst op = kZ TI ev' L dst op := by
 cases op with
 | makeMap T r =>
  cases r with
  | none => rfl
  | some x => simp only [kZ, h x (by simp [opsOf, Op.operands])]
 | range T m => simp only [kZ, h m (by simp [opsOf, Op.operands])]
 | entry x => simp only [kZ, h x (by simp [opsOf, Op.operands])]
 | lookup T m ix ok => simp only [kZ, h m (by simp [opsOf, Op.operands]), h ix (by simp [opsOf, Op.operands])]
 | mapUpdate T m k y => simp only [kZ, h m (by simp [opsOf, Op.operands]), h k (by simp [opsOf, Op.operands]), h y (by simp [opsOf, Op.operands])]
 | insert T m k y => simp only [kZ, h m (by simp [opsOf, Op.operands]), h k (by simp [opsOf, Op.operands]), h y (by simp [opsOf, Op.operands])]
 | binOp op T x y yt => simp only [kZ, h x (by simp [opsOf, Op.operands]), h y (by simp [opsOf, Op.operands])]
 | call c =>
  obtain ⟨callee, args, ats⟩ := c
  simp only [kZ]
  split
  ·rename_i x y hx
   have ha : args = #[x, y] := by apply Array.ext'; simpa using hx
   subst ha
   rw [h x (by simp [opsOf, Op.operands, Call.operands]), h y (by simp [opsOf, Op.operands, Call.operands])]
  ·rename_i x y hx
   have ha : args = #[x, y] := by apply Array.ext'; simpa using hx
   subst ha
   rw [h x (by simp [opsOf, Op.operands, Call.operands]), h y (by simp [opsOf, Op.operands, Call.operands])]
  ·rename_i x y hx
   have ha : args = #[x, y] := by apply Array.ext'; simpa using hx
   subst ha
   rw [h x (by simp [opsOf, Op.operands, Call.operands]), h y (by simp [opsOf, Op.operands, Call.operands])]
  ·rfl
 | _ => rfl
theorem alX {d : TD} : ∀ {r : List (Nat × Operand)} {l : List TV}, (∀ x ∈ r, ev x.2 = ev' x.2) -> zS ev L d r l = zS ev' L d r l
 | [], l, _ => rfl
 | (i, x) :: r, l, h => by
  have e : ev x = ev' x := h (i, x) (by simp)
  simp only [zS, e]
  split
  ·split
   ·exact alX fun y hy => h y (by simp [hy])
   ·rfl
  ·rfl
theorem alU {d : TD} : ∀ {r : List (Nat × Operand)} {l : List TV}, (∀ x ∈ r, ev x.2 = ev' x.2) -> zT ev L d r l = zT ev' L d r l
 | [], l, _ => rfl
 | (i, x) :: r, l, h => by
  have e : ev x = ev' x := h (i, x) (by simp)
  simp only [zT, e]
  split
  ·split
   ·split
    ·split
     ·exact alU fun y hy => h y (by simp [hy])
     ·rfl
    ·rfl
   ·rfl
  ·rfl
theorem aGR {d : TD} {r : List (Nat × Operand)} {l : List TV} (h : ∀ x ∈ r, ev x.2 = ev' x.2) : EW ev L d r l = EW ev' L d r l := by
 unfold EW; rw [alX h, alU h]
theorem aGU (TI : Nat -> TD) (TY : Nat -> DT) (rc : Nat -> Option (List (Option DT))) {dst : Option Nat} {op : Op} (h : ∀ x ∈ opsOf op, ev x = ev' x) : tst TI TY rc ev L dst op = tst TI TY rc ev' L dst op := by
 cases op with
 | build T parts =>
  simp only [tst]
  split
  ·split
   ·rw [aGR (ev' := ev') fun x hx => h x.2 (by simp only [opsOf, Op.operands]; exact List.mem_map_of_mem hx)]
   ·rfl
  ·rfl
 | store T x y => simp only [tst, h x (by simp [opsOf, Op.operands]), h y (by simp [opsOf, Op.operands])]
 | buildSlice T n parts =>
  have e : (parts.toList.map fun p => ev p.2) = parts.toList.map fun p => ev' p.2 := List.map_congr_left fun p hp => h p.2 (by simp only [opsOf, Op.operands]; exact List.mem_map_of_mem hp)
  simp only [tst, e]
 | load T x => simp only [tst, h x (by simp [opsOf, Op.operands])]
 | box T x => simp only [tst, h x (by simp [opsOf, Op.operands])]
 | slice T x lo hi mx =>
  have h0 : ev x = ev' x := h x (by simp [opsOf, Op.operands])
  have h1 : kG ev lo = kG ev' lo := JG fun y hy => h y (by simp [opsOf, Op.operands] at hy ⊢; simp [hy])
  have h2 : kG ev hi = kG ev' hi := JG fun y hy => h y (by simp [opsOf, Op.operands] at hy ⊢; simp [hy])
  simp only [tst, h0, h1, h2]
 | call c =>
  obtain ⟨callee, args, ats⟩ := c
  simp only [tst]
  split
  ·rename_i x T hx ht
   have ha : args = #[x] := by apply Array.ext'; simpa using hx
   subst ha
   rw [h x (by simp [opsOf, Op.operands, Call.operands])]
  ·rename_i x y T T' hx ht
   have ha : args = #[x, y] := by apply Array.ext'; simpa using hx
   subst ha
   rw [h x (by simp [opsOf, Op.operands, Call.operands]), h y (by simp [opsOf, Op.operands, Call.operands])]
  ·rename_i x T hx ht
   have ha : args = #[x] := by apply Array.ext'; simpa using hx
   subst ha
   rw [h x (by simp [opsOf, Op.operands, Call.operands])]
  ·rename_i x T hx ht
   have ha : args = #[x] := by apply Array.ext'; simpa using hx
   subst ha
   rw [h x (by simp [opsOf, Op.operands, Call.operands])]
  ·rfl
 | indexAddr T x y => simp only [tst, h x (by simp [opsOf, Op.operands]), h y (by simp [opsOf, Op.operands])]
 | _ => rfl
theorem aGX (TI : Nat -> TD) {dst : Option Nat} {op : Op} (h : ∀ x ∈ opsOf op, ev x = ev' x) : sH TI ev L dst op = sH TI ev' L dst op := by
 cases op with
 | convert S T x => simp only [sH, h x (by simp [opsOf, Op.operands])]
 | range T x => simp only [sH, h x (by simp [opsOf, Op.operands])]
 | call c =>
  obtain ⟨callee, args, ats⟩ := c
  simp only [sH]
  split
  ·rename_i m k T r hxs hts
   have ha : args = #[m, k] := by apply Array.ext'; simpa using hxs
   subst ha
   rw [h m (by simp [opsOf, Op.operands, Call.operands]), h k (by simp [opsOf, Op.operands, Call.operands])]
  ·rename_i m T r hxs hts
   have ha : args = #[m] := by apply Array.ext'; simpa using hxs
   subst ha
   rw [h m (by simp [opsOf, Op.operands, Call.operands])]
  ·rfl
 | _ => rfl
theorem aAA {op : Op} (h : ∀ x ∈ opsOf op, ev x = ev' x) : needs ev L op = needs ev' L op := by
 cases op with
 | buildSlice T n parts => simp only [needs, List.flatMap]; exact congrArg _ (List.map_congr_left fun p hp => by rw [h p.2 (by simp only [opsOf, Op.operands]; exact List.mem_map_of_mem hp)])
 | build T parts => simp only [needs, List.flatMap]; exact congrArg _ (List.map_congr_left fun p hp => by rw [h p.2 (by simp only [opsOf, Op.operands]; exact List.mem_map_of_mem hp)])
 | store T x y => simp only [needs, h x (by simp [opsOf, Op.operands]), h y (by simp [opsOf, Op.operands])]
 | load T x => simp only [needs, h x (by simp [opsOf, Op.operands])]
 | mapUpdate T m k y => simp only [needs, h k (by simp [opsOf, Op.operands]), h y (by simp [opsOf, Op.operands])]
 | insert T m k y => simp only [needs, h k (by simp [opsOf, Op.operands]), h y (by simp [opsOf, Op.operands])]
 | slice T x lo hi mx => simp only [needs, h x (by simp [opsOf, Op.operands])]
 | _ => rfl
theorem Zj (TI : Nat -> TD) (TY : Nat -> DT) (fz : Nat -> Bool) {dst : Option Nat} {op : Op} (h : ∀ x ∈ opsOf op, ev x = ev' x) : jP TI TY fz ev L dst op = jP TI TY fz ev' L dst op := by
 cases op with
 | makeSlice T l c => simp only [jP, h l (by simp [opsOf, Op.operands]), h c (by simp [opsOf, Op.operands])]
 | indexAddr T x y => simp only [jP, h x (by simp [opsOf, Op.operands]), h y (by simp [opsOf, Op.operands])]
 | load T x => simp only [jP, h x (by simp [opsOf, Op.operands])]
 | store T x y => simp only [jP, h x (by simp [opsOf, Op.operands]), h y (by simp [opsOf, Op.operands])]
 | buildSlice T n parts =>
  simp only [jP]
  split
  ·rename_i d t x _ hp
   have hmem : ((0, x) : Nat × Operand) ∈ parts.toList := by rw [hp]; simp
   rw [h x (by simp only [opsOf, Op.operands]; exact List.mem_map_of_mem hmem)]
  ·rfl
 | call c =>
  obtain ⟨callee, args, ats⟩ := c
  simp only [jP]
  split
  ·rename_i d x y T T' hx _
   have ha : args = #[x, y] := by apply Array.ext'; simpa using hx
   subst ha
   rw [h x (by simp [opsOf, Op.operands, Call.operands]), h y (by simp [opsOf, Op.operands, Call.operands])]
  ·rename_i x T hx _
   have ha : args = #[x] := by apply Array.ext'; simpa using hx
   subst ha
   rw [h x (by simp [opsOf, Op.operands, Call.operands])]
  ·rfl
 | _ => rfl
theorem aEF (TI : Nat -> TD) {dst : Option Nat} {op : Op} (h : ∀ x ∈ opsOf op, ev x = ev' x) : DD TI ev L dst op = DD TI ev' L dst op := by
 cases op with
 | store T x y => simp only [DD, h x (by simp [opsOf, Op.operands]), h y (by simp [opsOf, Op.operands])]
 | _ => rfl
theorem aGI (TI : Nat -> TD) (TY : Nat -> DT) (fz : Nat -> Bool) {dst : Option Nat} {op : Op} (h : ∀ x ∈ opsOf op, ev x = ev' x) : EU TI TY fz ev L dst op = EU TI TY fz ev' L dst op := by
 unfold EU
 have e : (op.operands.toList.flatMap fun x => (ev x).sF L) = op.operands.toList.flatMap fun x => (ev' x).sF L := by
  have : ∀ (l : List Operand), (∀ x ∈ l, x ∈ opsOf op) -> (l.flatMap fun x => (ev x).sF L) = l.flatMap fun x => (ev' x).sF L := by
   intro l
   induction l with
   | nil => intro _; rfl
   | cons x l ih => intro hl; simp only [List.flatMap_cons, h x (hl x (by simp)), ih fun y hy => hl y (by simp [hy])]
  exact this _ fun x hx => hx
 rw [aEF TI h, e]
 simp only [fun L => Zj (L := L) TI TY fz (dst := dst) h]
theorem aGG (E : Env) {dst : Option Nat} {op : Op} (h : ∀ x ∈ opsOf op, ev x = ev' x) : G6 E ev L dst op = G6 E ev' L dst op := by
 unfold G6
 split
 ·rw [Zj E.TI E.TY E.fz h]
 ·rw [Zj E.TI E.TY E.fz h]
 ·rfl
theorem as3 (E : Env) {o : Oper} (h : ∀ x ∈ opsOf o.op, ev x = ev' x) : zB E o ev L = zB E o ev' L := by
 unfold zB
 rw [aAA h, aGU E.TI E.TY E.rc h]
 simp only [aG1 E.TI h, aGL E.TI E.TY h, aEL E h, aGP E.TI E.TY E.rc h, aGD E.TI h, aGX E.TI h, aGG E h, aGI E.TI E.TY E.fz h]
theorem as6 {α : Type} (E : Env) {o : Oper} (h : ∀ x ∈ opsOf o.op, ev x = ev' x) (k : Eff -> Option α) : eff E o ev L k = eff E o ev' L k := by
 obtain ⟨dst, op, ty, pos, after, g⟩ := o
 unfold eff
 rw [as3 E h]
 split
 ·rfl
 ·simp only
  cases op with
  | pick c x y => simp only [h c (by simp [opsOf, Op.operands]), h x (by simp [opsOf, Op.operands]), h y (by simp [opsOf, Op.operands])]
  | next x is => cases is with
   | false => rfl
   | true => simp only [h x (by simp [opsOf, Op.operands])]
  | call c =>
   obtain ⟨callee, args, ats⟩ := c
   cases callee with
   | value x =>
    have e : args.toList.map ev = args.toList.map ev' := List.map_congr_left fun y hy => h y (by simp [opsOf, Op.operands, Call.operands]; exact .inr (by simpa using hy))
    simp only [h x (by simp [opsOf, Op.operands, Call.operands]), e]
   | invoke x name =>
    have e : args.toList.map ev = args.toList.map ev' := List.map_congr_left fun y hy => h y (by simp [opsOf, Op.operands, Call.operands]; exact .inr (by simpa using hy))
    simp only [h x (by simp [opsOf, Op.operands, Call.operands]), e]
   | _ => rfl
  | _ => rfl
end
structure KZ (L L' : bF) (R : List Nat) : Prop where
 cl : ∀ i ∈ R, ∀ ob, L i = some ob -> ∀ j ∈ ob.ids, j ∈ R
 eq : ∀ i ∈ R, L i = L' i
section
variable {L L' : bF} {R : List Nat}
theorem KZ.eX {U : List (Nat × TO)} (h : KZ L L' R) (hU : ∀ i ob, aA U i = some ob -> ob.ids = []) : KZ (eX U L) (Go.Proofs.YtfopcfnggdonkaaGreatDoor.eX U L') R :=
 ⟨fun i hi ob hob j hj => by
  simp only [Go.Proofs.YtfopcfnggdonkaaGreatDoor.eX] at hob
  cases hu : aA U i with
  | some o' => rw [hu] at hob; obtain rfl := aC hob; rw [hU i _ hu] at hj; simp at hj
  | none => rw [hu] at hob; exact h.cl i hi ob hob j hj, fun i hi => by simp only [Go.Proofs.YtfopcfnggdonkaaGreatDoor.eX, h.eq i hi]⟩
theorem Jq (h : KZ L L' R) : ∀ (n : Nat) (todo acc : List Nat), (∀ i ∈ todo, i ∈ R) -> uG n L todo acc = uG n L' todo acc
 | 0, _, _, _ => by simp only [uG]
 | n + 1, [], acc, _ => by simp only [uG]
 | n + 1, i :: todo, acc, ht => by
  simp only [uG, <- h.eq i (ht i (by simp))]
  split
  ·exact Jq h n todo acc fun j hj => ht j (by simp [hj])
  ·cases ho : L i with
   | none => exact Jq h n todo acc fun j hj => ht j (by simp [hj])
   | some ob =>
    exact Jq h n _ _ fun j hj => by
     rcases List.mem_append.1 hj with q | q
     ·exact ht j (by simp [q])
     ·exact h.cl i (ht i (by simp)) ob ho j q
theorem Jp (h : KZ L L' R) : ∀ (n : Nat) (todo acc : List Nat), (∀ i ∈ todo, i ∈ R) -> (∀ i ∈ acc, i ∈ R) -> ∀ i ∈ uG n L todo acc, i ∈ R
 | 0, _, acc, _, ha => by simp only [uG]; exact ha
 | n + 1, [], acc, _, ha => by simp only [uG]; exact ha
 | n + 1, i :: todo, acc, ht, ha => by
  simp only [uG]
  split
  ·exact Jp h n todo acc (fun j hj => ht j (by simp [hj])) ha
  ·cases ho : L i with
   | none => exact Jp h n todo acc (fun j hj => ht j (by simp [hj])) ha
   | some ob =>
    exact Jp h n _ _ (fun j hj => by
     rcases List.mem_append.1 hj with q | q
     ·exact ht j (by simp [q])
     ·exact h.cl i (ht i (by simp)) ob ho j q) fun j hj => by
      rcases List.mem_append.1 hj with q | q
      ·exact ha j q
      ·simp at q; subst q; exact ht j (by simp)
theorem ayK {x : TV} (h : ∀ i ∈ x.ids, L i = L' i) : x.aO L = x.aO L' := by
 cases x with
 | view id i p k n a b => simp only [TV.aO, h id (by simp [TV.ids])]
 | row id => simp only [TV.aO, TV.FM h, h id (by simp [TV.ids])]
 | _ => simp only [TV.aO]; rw [TV.FM h]
theorem ayJ {x : TV} (h : ∀ i ∈ x.ids, L i = L' i) (t : DT) : NV L x t = NV L' x t := by
 cases t <;> simp only [NV, ayK h, TV.tC h]
theorem ac9 : ∀ {eQ : List Md} {xs : List TV}, (∀ x ∈ xs, ∀ i ∈ x.ids, L i = L' i) -> rV L eQ xs = rV L' eQ xs
 | [], [], _ => rfl
 | m :: ms, x :: xs, h => by
  simp only [rV, ac9 (eQ := ms) (xs := xs) fun y hy => h y (by simp [hy])]
  split
  ·cases m with
   | obj => rfl
   | aO t => simp only [ayJ (h x (by simp))]
   | own t => simp only [TV.tC (h x (by simp))]
  ·rfl
 | [], _ :: _, _ => rfl
 | _ :: _, [], _ => rfl
theorem aiU : ∀ {eQ : List Md} {xs : List TV}, ∀ i ∈ uF eQ xs, ∃ x ∈ xs, i ∈ x.ids
 | [], _, i, h => by simp [uF] at h
 | m :: ms, [], i, h => by cases m <;> simp [uF] at h
 | m :: ms, x :: xs, i, h => by
  have ih := aiU (eQ := ms) (xs := xs) i
  cases m with
  | own t =>
   simp only [uF, List.mem_append] at h
   rcases h with h | h
   ·exact ⟨x, by simp, yF h⟩
   ·obtain ⟨y, a, b⟩ := ih h; exact ⟨y, by simp [a], b⟩
  | obj => simp only [uF] at h; obtain ⟨y, a, b⟩ := ih h; exact ⟨y, by simp [a], b⟩
  | aO t => simp only [uF] at h; obtain ⟨y, a, b⟩ := ih h; exact ⟨y, by simp [a], b⟩
theorem Aq : ∀ {eQ : List Md} {xs : List TV}, ∀ i ∈ uO eQ xs, ∃ x ∈ xs, i ∈ x.ids
 | [], xs, i, h => by simp [uO] at h
 | m :: ms, [], i, h => by cases m <;> simp [uO] at h
 | m :: ms, x :: xs, i, h => by
  cases m with
  | obj =>
   simp only [uO] at h
   obtain ⟨y, a, b⟩ := Aq i h
   exact ⟨y, by simp [a], b⟩
  | aO t =>
   simp only [uO, List.mem_append] at h
   rcases h with h | h
   ·exact ⟨x, by simp, yF h⟩
   ·obtain ⟨y, a, b⟩ := Aq i h
    exact ⟨y, by simp [a], b⟩
  | own t =>
   simp only [uO, List.mem_append] at h
   rcases h with h | h
   ·exact ⟨x, by simp, yF h⟩
   ·obtain ⟨y, a, b⟩ := Aq i h
    exact ⟨y, by simp [a], b⟩
theorem aiE : ∀ {eQ : List Md} {xs : List TV}, ∀ i ∈ qZ eQ xs, ∃ x ∈ xs, i ∈ x.ids
 | [], _, i, h => by simp [qZ] at h
 | m :: ms, [], i, h => by cases m <;> simp [qZ] at h
 | m :: ms, x :: xs, i, h => by
  have ih := aiE (eQ := ms) (xs := xs) i
  cases m with
  | obj =>
   simp only [qZ, List.mem_append] at h
   rcases h with h | h
   ·exact ⟨x, by simp, h⟩
   ·obtain ⟨y, a, b⟩ := ih h; exact ⟨y, by simp [a], b⟩
  | own t => simp only [qZ] at h; obtain ⟨y, a, b⟩ := ih h; exact ⟨y, by simp [a], b⟩
  | aO t => simp only [qZ] at h; obtain ⟨y, a, b⟩ := ih h; exact ⟨y, by simp [a], b⟩
theorem agG : ∀ {eQ : List Md} {xs : List TV}, (∀ x ∈ xs, ∀ i ∈ x.ids, L i = L' i) -> uS L eQ xs = uS L' eQ xs
 | [], _, _ => by simp only [uS]
 | m :: ms, [], _ => by cases m <;> simp only [uS]
 | m :: ms, x :: xs, h => by
  have ih := agG (eQ := ms) (xs := xs) fun y hy => h y (by simp [hy])
  cases m with
  | aO t =>
   simp only [uS, ih]
   congr 1
   exact List.filter_congr fun i hi => by rw [h x (by simp) i hi]
  | obj => simp only [uS, ih]
  | own t => simp only [uS, ih]
theorem acW {P : Program} {E : Env} (hE : oW P E) {d g : Nat} {xs : List TV} {e : Eff} (hx : ∀ x ∈ xs, ∀ i ∈ x.ids, i ∈ R) (h : KZ L L' R) (hk : ∀ p ∈ e.u, L p.1 = L' p.1)
  (hd : ∀ (β : Type) (k' : Eff -> Option β), FH E d g xs L k' = k' e) (β : Type) (k' : Eff -> Option β) : FH E d g xs L' k' = k' e := by
 have h0 := hd Eff fun x => some x
 unfold FH at h0 ⊢
 cases hs : E.sig g xs with
 | none => rw [hs] at h0; cases h0
 | some eQ =>
  rw [hs] at h0
  simp only at h0 ⊢
  have hown : ∀ i ∈ uF eQ xs, i ∈ R := fun i hi => by obtain ⟨x, a, b⟩ := aiU i hi; exact hx x a i b
  have afJ : ∀ i ∈ qZ eQ xs, i ∈ R := fun i hi => by obtain ⟨x, a, b⟩ := aiE i hi; exact hx x a i b
  have hdat : ∀ i ∈ uO eQ xs, i ∈ R := fun i hi => by obtain ⟨x, a, b⟩ := Aq i hi; exact hx x a i b
  have hS : ∀ i ob, aA (nO L (uO eQ xs)) i = some ob -> ob.ids = [] := Uf Yy
  rw [<- ak2 (L := L) (L' := L') h.cl h.eq hdat]
  have hv := h.eX hS
  generalize nO L (uO eQ xs) = S0 at h0 hS hv ⊢
  rw [<- ae0 (L := eX S0 L) (L' := eX S0 L') fun i hi => hv.eq i (hown i hi)]
  have hU : ∀ i ob, aA (iZ (eX S0 L) (uF eQ xs) ++ S0) i = some ob -> ob.ids = [] := fun i ob ho => by
   rw [G5] at ho
   simp only [eX] at ho
   split at ho
   ·rename_i o' ho'
    obtain rfl := aC ho; exact aeZ i _ ho'
   ·exact hS i ob ho
  have h1 := h.eX hU
  have hk1 : ∀ p ∈ e.u, eX (iZ (eX S0 L) (uF eQ xs) ++ S0) L p.1 = eX (iZ (eX S0 L) (uF eQ xs) ++ S0) L' p.1 := fun p hp => by simp only [eX, hk p hp]
  generalize iZ (eX S0 L) (uF eQ xs) ++ S0 = U0 at h0 h1 hk1 ⊢
  generalize eX U0 L = L1 at h0 h1 hk1 ⊢
  generalize eX U0 L' = L2 at h1 hk1 ⊢
  have hxe : ∀ x ∈ xs, ∀ i ∈ x.ids, L1 i = L2 i := fun x a i b => h1.eq i (hx x a i b)
  rw [<- ac9 hxe, <- Jq h1 60 (qZ eQ xs) [] afJ, <- agG hxe]
  cases hc : rV L1 eQ xs with
  | none => rw [hc] at h0; cases h0
  | some q =>
   obtain ⟨as, b⟩ := q
   rw [hc] at h0
   simp only at h0 ⊢
   have hin := Jp h1 60 (qZ eQ xs) [] afJ (fun i hi => by simp at hi)
   generalize uG 60 L1 (qZ eQ xs) [] = T at h0 hin ⊢
   split at h0
   ·rename_i hcond
    obtain ⟨hb, h0⟩ := IY h0
    subst hb
    obtain ⟨rv, O', g1, g2, _⟩ := hE _ _ _ _ _ _ h0
    simp only [bC, List.all_eq_true] at hcond
    obtain ⟨⟨⟨k1, k2⟩, k3⟩, k4⟩ := hcond
    rw [if_pos (by simp only [bC, List.all_eq_true]; exact ⟨⟨⟨fun i hi => by rw [<- h1.eq i (hin i hi)]; exact k1 i hi, k2⟩, k3⟩, k4⟩)]
    have hm : (T.map fun i => (oU T i, ((L1 i).getD .dead).ren (oU T))) = T.map fun i => (oU T i, ((L2 i).getD .dead).ren (oU T)) := List.map_congr_left fun i hi => by rw [h1.eq i (hin i hi)]
    rw [hm] at g2
    show E.phi _ _ _ _ = _
    rw [g2]
    split at g1
    ·rename_i hg
     obtain rfl := aC g1
     simp only [bC, List.all_eq_true] at hg
     obtain ⟨⟨q1, q2⟩, q3⟩ := hg
     rw [if_pos (by
      simp only [bC, List.all_eq_true]
      refine ⟨⟨q1, fun p hp => ?_⟩, q3⟩
      have hmem : (vW T d p.1, p.2.ren (vW T d)) ∈ qF (vW T d) O' ++ U0 := List.mem_append_left _ (by
       simp only [qF]; exact List.mem_map_of_mem (f := fun p => (vW T d p.1, p.2.ren (vW T d))) hp)
      rw [<- hk1 _ hmem]
      exact q2 p hp)]
    ·cases g1
   ·cases h0
theorem as8 {P : Program} {E : Env} (hE : oW P E) {o : Oper} {ev : Operand -> TV} {e : Eff} (h : jZ o ev L L' R) (hk : ∀ p ∈ e.u, L p.1 = L' p.1)
  (hd : ∀ (β : Type) (k' : Eff -> Option β), eff E o ev L k' = k' e) (β : Type) (k' : Eff -> Option β) : eff E o ev L' k' = k' e := by
 have hl := as4 h E
 obtain ⟨dst, op, ty, pos, after, gd⟩ := o
 unfold eff at hd ⊢
 rw [<- hl]
 cases hn : zB E ⟨dst, op, ty, pos, after, gd⟩ ev L with
 | some e' => simp only [hn] at hd ⊢; exact hd β k'
 | none =>
  simp only [hn] at hd ⊢
  cases op with
  | pick c x y => exact hd β k'
  | next x is => cases is with
   | false => exact hd β k'
   | true =>
    simp only at hd ⊢
    have hox := h.ops x (by simp [opsOf, Op.operands])
    cases hv : ev x with
    | row id =>
     rw [hv] at hd hox
     simp only at hd ⊢
     rw [<- h.eq id (hox id (by simp [TV.ids]))]
     exact hd β k'
    | _ => rw [hv] at hd; exact hd β k'
  | call c =>
   obtain ⟨callee, args, ats⟩ := c
   cases callee with
   | value x =>
    simp only at hd ⊢
    have hox := h.ops x (by simp [opsOf, Op.operands, Call.operands])
    cases hv : ev x with
    | fn g k n f =>
     rw [hv] at hd hox
     simp only at hd ⊢
     refine acW hE (R := R) ?_ ⟨h.cl, h.eq⟩ hk hd β k'
     intro y hy i hi
     simp only [Dx, List.mem_append, List.mem_map, List.mem_range] at hy
     rcases hy with (⟨j, hj, rfl⟩ | ⟨z, hz, rfl⟩) | ⟨j, hj, rfl⟩
     ·exact hox i (by simp only [TV.ids, List.mem_flatMap, List.mem_range]; exact ⟨j, by omega, hi⟩)
     ·exact h.ops z (by simp [opsOf, Op.operands, Call.operands]; exact .inr (by simpa using hz)) i hi
     ·exact hox i (by simp only [TV.ids, List.mem_flatMap, List.mem_range]; exact ⟨k + j, by omega, hi⟩)
    | _ => rw [hv] at hd; have := hd Eff (fun x => some x); cases this
   | invoke x name =>
    simp only at hd ⊢
    cases hv : ev x with
    | dv u y =>
     rw [hv] at hd
     simp only at hd ⊢
     clear hv
     induction u with
     | iT T t u' _ ih =>
      cases y with
      | inr b => exact ih b hd
      | inl b =>
       simp only [NR, Uh] at hd ⊢
       split
       ·rename_i ha; simp only [ha, if_true] at hd; have := hd Eff (fun x => some x); cases this
       ·rename_i ha
        simp only [ha] at hd
        cases hg : (E.TI T).zH.lookup name with
        | none => simp only [hg] at hd; have := hd Eff (fun x => some x); cases this
        | some g =>
         simp only [hg] at hd ⊢
         refine acW hE (R := R) ?_ ⟨h.cl, h.eq⟩ hk hd β k'
         intro z hz i hi
         rcases List.mem_cons.1 hz with rfl | hz
         ·simp [TV.ids] at hi
         ·obtain ⟨p, hp, rfl⟩ := List.mem_map.1 hz
          exact h.ops p (by simp [opsOf, Op.operands, Call.operands]; exact .inr (by simpa using hp)) i hi
     | _ => have := hd Eff (fun x => some x); cases this
    | _ => rw [hv] at hd; have := hd Eff (fun x => some x); cases this
   | _ => have := hd Eff (fun x => some x); cases this
  | _ => have := hd Eff (fun x => some x); cases this
end
end
section
structure Lb where
 i : Nat
 rd : List Nat
 e : Eff
def Lb.lab (l : Lb) : XP := ⟨l.i, l.rd, l.e.u.map (·.1)⟩
inductive Way (E : Env) (ops : Array Oper) (o : Oper) (s : TS) (e : Eff) : Prop
 | run (hg : o.guard = none) (hd : ∀ (β : Type) (k' : Eff -> Option β), eff E o s.ev (aA s.ob) k' = k' e)
 | want (j d : Nat) (g : Bool) (hg : o.guard = some (j, g)) (hd : (ops[j]?).bind (·.dst) = some d) (hs : s.sl[d]? = some (.dv .bool g)) (he : ∀ (β : Type) (k' : Eff -> Option β), eff E o s.ev (aA s.ob) k' = k' e)
 | pass (j d : Nat) (g t : Bool) (hg : o.guard = some (j, g)) (hd : (ops[j]?).bind (·.dst) = some d) (hs : s.sl[d]? = some (.dv .bool t)) (hne : t ≠ g) (he : e = ⟨.cst undef, [], true⟩)
 | skip (j d : Nat) (g : Bool) (xs : Array Value) (hg : o.guard = some (j, g)) (hd : (ops[j]?).bind (·.dst) = some d) (hs : s.sl[d]? = some (.cst (.tuple xs))) (he : e = ⟨.cst undef, [], true⟩)
structure DS (E : Env) (ops : Array Oper) (o : Oper) (s : TS) (l : Lb) : Prop where
 at_ : ops[l.i]? = some o
 opn : flat o.op = false -> ∀ x ∈ opsOf o.op, ∀ i ∈ (s.ev x).ids, i ∈ l.rd
 cl : flat o.op = false -> ∀ i ∈ l.rd, ∀ ob, aA s.ob i = some ob -> ∀ j ∈ ob.ids, j ∈ l.rd
 dst : ∀ d, o.dst = some d -> d ∈ l.rd /\ 2000000 + d ∈ l.rd
 way : Way E ops o s l.e
theorem alB {s : TS} {d : Nat} {t : DT} {x : t.den} (h : s.ev (.tmp d) = .dv t x) : s.sl[d]? = some (.dv t x) := by
 simp only [TS.ev, List.getD] at h
 cases e : s.sl[d]? with
 | none => rw [e] at h; cases h
 | some y => rw [e] at h; exact congrArg some h
theorem aDV {s : TS} {d : Nat} {v : Value} (h : s.ev (.tmp d) = .cst v) : s.sl[d]? = some (.cst v) := by
 simp only [TS.ev, List.getD] at h
 cases e : s.sl[d]? with
 | none => rw [e] at h; cases h
 | some y => rw [e] at h; exact congrArg some h
theorem Qy {s : TS} {d : Nat} {x : TV} (h : s.sl[d]? = some x) : s.ev (.tmp d) = x := by simp [TS.ev, List.getD, h]
theorem guard_looks {ops : Array Oper} {o : Oper} {j d : Nat} {g : Bool} (hg : o.guard = some (j, g)) (hd : (ops[j]?).bind (·.dst) = some d) : Operand.tmp d ∈ looks ops o := by
 simp only [looks, hg, hd]; simp
theorem as7 {E : Env} {o : Oper} (h : flat o.op = true) (ev : Operand -> TV) (L L' : bF) {β : Type} (k : Eff -> Option β) : eff E o ev L k = eff E o ev L' k := by
 obtain ⟨dst, op, g, af⟩ := o
 cases op <;> first | rfl | (simp [flat] at h)
theorem DS.move {P : Program} {E : Env} (hE : oW P E) {ops : Array Oper} {o : Oper} {s t : TS} {l : Lb} (h : DS E ops o s l) (hev : ∀ x ∈ looks ops o, s.ev x = t.ev x) (hrd : ∀ i ∈ l.rd, aA s.ob i = aA t.ob i) (hks : ∀ p ∈ l.e.u, aA s.ob p.1 = aA t.ob p.1) : DS E ops o t l := by
 have hop : ∀ x ∈ opsOf o.op, s.ev x = t.ev x := fun x hx => hev x (by simp only [looks, List.mem_append]; exact .inl hx)
 have key : (∀ (β : Type) (k' : Eff -> Option β), eff E o s.ev (aA s.ob) k' = k' l.e) -> ∀ (β : Type) (k' : Eff -> Option β), eff E o t.ev (aA t.ob) k' = k' l.e := fun hd β k' => by
  rw [<- as6 E hop]
  cases hf : flat o.op with
  | true => rw [as7 hf s.ev (aA t.ob) (aA s.ob)]; exact hd β k'
  | false => exact as8 hE (show jZ o s.ev (aA s.ob) (aA t.ob) l.rd from ⟨h.opn hf, h.cl hf, h.dst, hrd⟩) hks hd β k'
 refine ⟨h.at_, fun hf x hx i hi => h.opn hf x hx i (by rw [hop x hx]; exact hi), fun hf i hi ob hob j hj => h.cl hf i hi ob (by rw [hrd i hi]; exact hob) j hj, h.dst, ?_⟩
 cases h.way with
 | run hg hd => exact .run hg (key hd)
 | want j d g hg hd hs he => exact .want j d g hg hd (alB (by rw [<- hev _ (guard_looks hg hd)]; exact Qy hs)) (key he)
 | pass j d g t' hg hd hs hne he => exact .pass j d g t' hg hd (alB (by rw [<- hev _ (guard_looks hg hd)]; exact Qy hs)) hne he
 | skip j d g xs hg hd hs he => exact .skip j d g xs hg hd (aDV (by rw [<- hev _ (guard_looks hg hd)]; exact Qy hs)) he
structure FC (s t : TS) : Prop where
 sl : s.sl = t.sl
 ob : aA s.ob = aA t.ob
theorem FC.ev {s t : TS} (h : FC s t) : s.ev = t.ev := by
 funext x; cases x <;> simp only [TS.ev, h.sl]
theorem Oe (s : TS) (d : Option Nat) (e : Eff) : (s.app d e).sl = (s.put d e.y).sl := rfl
theorem BI (s : TS) (d : Option Nat) (e : Eff) : aA (s.app d e).ob = eX e.u (aA s.ob) := G5 e.u s.ob
theorem FC.app {s t : TS} (h : FC s t) (d : Option Nat) (e : Eff) : FC (s.app d e) (t.app d e) :=
 ⟨by rw [Oe, Oe]; cases d <;> simp only [TS.put, h.sl], by rw [BI, BI, h.ob]⟩
inductive RL (E : Env) (ops : Array Oper) : List Lb -> TS -> TS -> Prop
 | nil {s t : TS} (h : FC s t) : RL E ops [] s t
 | cons {l : Lb} {r : List Lb} {o : Oper} {s t : TS} (h : DS E ops o s l) (hr : RL E ops r (s.app o.dst l.e) t) : RL E ops (l :: r) s t
section
variable {P : Program} {E : Env} {ops : Array Oper}
theorem RL.cO (hE : oW P E) : ∀ {l : List Lb} {s t s' : TS}, RL E ops l s t -> FC s s' -> RL E ops l s' t
 | _, _, _, _, .nil h, hs => .nil ⟨hs.sl ▸ h.sl, hs.ob ▸ h.ob⟩
 | _, _, _, _, .cons h hr, hs => .cons (h.move hE (fun x _ => by rw [hs.ev]) (fun i _ => by rw [hs.ob]) fun p _ => by rw [hs.ob]) (RL.cO hE hr (hs.app _ _))
theorem aeP {s : TS} {d : Option Nat} {e : Eff} {x : Operand} (h : ∀ i, d = some i -> x ≠ .tmp i) : (s.app d e).ev x = s.ev x := by
 cases x with
 | tmp t =>
  cases d with
  | none => rfl
  | some d =>
   have : d ≠ t := fun q => h d rfl (q ▸ rfl)
   simp only [TS.ev, Oe, TS.put, List.getD, List.getElem?_set_ne this]
 | _ => rfl
theorem aqX {x i : Oper} (h : MN ops x i = true) : (∀ z ∈ looks ops i, ∀ d, x.dst = some d -> z ≠ .tmp d) /\ (∀ d, x.dst = some d -> i.dst ≠ some d) /\ (∀ z ∈ looks ops x, ∀ d, i.dst = some d -> z ≠ .tmp d) := by
 simp only [MN, bC] at h
 obtain ⟨h1, h2⟩ := h
 refine ⟨fun z hz d hd => ?_, fun d hd => ?_, fun z hz d hd => ?_⟩
 ·rw [hd] at h1
  simp only [bC, List.all_eq_true] at h1
  have := h1.1 z hz
  intro q; subst q; simp at this
 ·rw [hd] at h1
  simp only [bC, bne_iff_ne] at h1
  exact h1.2
 ·rw [hd] at h2
  simp only [List.all_eq_true] at h2
  have := h2 z hz
  intro q; subst q; simp at this
theorem SQ {a b : List Nat} (h : tJ a b = true) {i : Nat} (ha : i ∈ a) (hb : i ∈ b) : False := by
 simp only [tJ, List.all_eq_true, Bool.not_eq_true'] at h
 have := h i ha
 rw [List.contains_iff_mem.2 hb] at this; cases this
theorem Zi {u : List (Nat × TO)} {i : Nat} (h : i ∉ u.map (·.1)) : aA u i = none := by
 induction u with
 | nil => rfl
 | cons p r ih =>
  obtain ⟨j, o⟩ := p
  rw [dQ, if_neg (fun e => h (by simp [e]))]
  exact ih fun q => h (by simp only [List.map_cons, List.mem_cons]; exact .inr q)
theorem OQ {u : List (Nat × TO)} {L : bF} {i : Nat} (h : i ∉ u.map (·.1)) : eX u L i = L i := by simp only [eX, Zi h]
theorem aCK {u v : List (Nat × TO)} (h : tJ (u.map (·.1)) (v.map (·.1)) = true) (L : bF) : eX u (eX v L) = eX v (eX u L) := by
 funext i
 by_cases hu : i ∈ u.map (·.1)
 ·have hv : i ∉ v.map (·.1) := fun q => SQ h hu q
  rw [OQ (u := v) hv]
  simp only [eX, Zi hv]
 ·rw [OQ hu]
  simp only [eX, Zi hu]
theorem aqU {s : TS} {d d' : Option Nat} {e e' : Eff} (h : ∀ i, d = some i -> d' ≠ some i) (hd : tJ (e.u.map (·.1)) (e'.u.map (·.1)) = true) : FC ((s.app d e).app d' e') ((s.app d' e').app d e) := by
 constructor
 ·simp only [TS.app]
  cases d with
  | none => cases d' <;> rfl
  | some i =>
   cases d' with
   | none => rfl
   | some j =>
    have : i ≠ j := fun q => h i rfl (q ▸ rfl)
    simp only [TS.put, List.set_comm _ _ this]
 ·rw [BI, BI, BI, BI]
  exact (aCK hd _).symm
theorem RL.swap (hE : oW P E) {x i : Lb} {ox oi : Oper} {r : List Lb} {s t : TS} (hx : ops[x.i]? = some ox) (hi : ops[i.i]? = some oi) (ha : MN ops ox oi = true) (h1 : tJ (x.e.u.map (·.1)) i.rd = true) (h2 : tJ (x.e.u.map (·.1)) (i.e.u.map (·.1)) = true) (h3 : tJ (i.e.u.map (·.1)) x.rd = true)
  (h : RL E ops (x :: i :: r) s t) : RL E ops (i :: x :: r) s t := by
 cases h with
 | cons hdx hr =>
  cases hr with
  | cons hdi hr =>
   obtain rfl : _ = ox := aC (hdx.at_.symm.trans hx)
   obtain rfl : _ = oi := aC (hdi.at_.symm.trans hi)
   obtain ⟨a1, a2, a3⟩ := aqX ha
   have k1 : DS E ops _ s i := hdi.move hE (fun z hz => aeP fun d hd => a1 z hz d hd)
    (fun j hj => by rw [BI]; exact OQ fun q => SQ h1 q hj)
    (fun p hp => by rw [BI]; exact OQ fun q => SQ h2 q (List.mem_map_of_mem hp))
   have k2 : DS E ops _ (s.app _ i.e) x := hdx.move hE (fun z hz => (aeP fun d hd => a3 z hz d hd).symm)
    (fun j hj => by rw [BI]; exact (OQ fun q => SQ h3 q hj).symm)
    (fun p hp => by rw [BI]; exact (OQ fun q => SQ h2 (List.mem_map_of_mem hp) q).symm)
   exact .cons k1 (.cons k2 (hr.cO hE (aqU a2 h2)))
theorem RL.bubble (hE : oW P E) {i : Lb} {r : List Lb} {t : TS} : ∀ (pre : List Lb) {s : TS}, (∀ x ∈ pre, ∃ ox oi, ops[x.i]? = some ox /\ ops[i.i]? = some oi /\ MN ops ox oi = true /\ tJ (x.e.u.map (·.1)) i.rd = true /\ tJ (x.e.u.map (·.1)) (i.e.u.map (·.1)) = true /\ tJ (i.e.u.map (·.1)) x.rd = true) ->
  RL E ops (pre ++ i :: r) s t -> RL E ops (i :: (pre ++ r)) s t
 | [], s, _, h => h
 | x :: pre, s, ha, h => by
  cases h with
  | cons hd hr =>
   have := RL.bubble hE pre (fun y hy => ha y (by simp [hy])) hr
   obtain ⟨ox, oi, b1, b2, b3, b4, b5, b6⟩ := ha x (by simp)
   exact RL.swap hE b1 b2 b3 b4 b5 b6 (.cons hd this)
theorem ac2 {o : Oper} {s : TS} {R : List Nat} (h : Ou o s R = true) (hf : flat o.op = false) : (∀ x ∈ opsOf o.op, ∀ i ∈ (s.ev x).ids, i ∈ R) /\ (∀ i ∈ R, ∀ ob, aA s.ob i = some ob -> ∀ j ∈ ob.ids, j ∈ R) := by
 simp only [Ou, hf, Bool.false_or, bC, List.all_eq_true, List.contains_iff_mem] at h
 refine ⟨fun x hx i hi => h.1 i (by simp only [List.mem_flatMap]; exact ⟨x, hx, hi⟩), fun i hi ob hob j hj => ?_⟩
 have := h.2 i hi
 rw [hob] at this
 simp only [List.all_eq_true, List.contains_iff_mem] at this
 exact this j hj
theorem ai4 (hT : dI P E.TI) (hE : oW P E) {α : Type} {k : TS -> Option α} {r : α} : ∀ (l : List Oper) (n : Nat) (hist : List XP) (s : TS), (∀ j, l[j]? = ops[n + j]?) -> prun E ops n l hist s k = some r ->
  ∃ ll t, ll.map Lb.i = List.range' n l.length /\ RL E ops ll s t /\ k t = some r /\ ll.Pairwise (fun x y => J3 ops x.lab y.lab = true) /\ ∀ h ∈ hist, ∀ x ∈ ll, J3 ops h x.lab = true
 | [], n, hist, s, _, h => ⟨[], s, rfl, .nil ⟨rfl, rfl⟩, h, .nil, fun _ _ _ hx => by simp at hx⟩
 | o :: l, n, hist, s, hl, h => by
  simp only [prun] at h
  split at h
  ·rename_i hcl
   obtain ⟨s', ks, h1, h2⟩ := ai0 (P := P) (c := ⟨default, fun _ => False, fun _ => none, none, [], []⟩) (F := fun _ => True) hT hE h
   split at h1
   ·rename_i afD
    have hat : ops[n]? = some o := by have := hl 0; simpa using this.symm
    obtain ⟨ll, t, e1, e2, e3, e4, e5⟩ := ai4 hT hE l (n + 1) _ s' (fun j => by have := hl (j + 1); simp only [List.getElem?_cons_succ] at this; rw [this]; congr 1; omega) h1
    have hdst : ∀ d, o.dst = some d -> d ∈ GV o s /\ 2000000 + d ∈ GV o s := fun d hd => by simp [GV, hd]
    have fin : ∀ e : Eff, s' = s.app o.dst e -> ks = e.u.map (·.1) -> Way E ops o s e -> ∃ ll t, ll.map Lb.i = List.range' n (o :: l).length /\ RL E ops ll s t /\ k t = some r /\ ll.Pairwise (fun x y => J3 ops x.lab y.lab = true) /\ ∀ h ∈ hist, ∀ x ∈ ll, J3 ops h x.lab = true := fun e q1 q2 q3 => by
     subst q1; subst q2
     refine ⟨⟨n, GV o s, e⟩ :: ll, t, ?_, .cons ⟨hat, fun hf => (ac2 hcl hf).1, fun hf => (ac2 hcl hf).2, hdst, q3⟩ e2, e3, ?_, ?_⟩
     ·simp only [List.map_cons, e1, List.length_cons, List.range'_succ]
     ·exact .cons (fun x hx => e5 ⟨n, GV o s, e.u.map fun p : Nat × TO => p.1⟩ (by simp) x hx) e4
     ·intro h hh x hx
      rcases List.mem_cons.1 hx with rfl | hx
      ·simp only [List.all_eq_true] at afD; exact afD h hh
      ·exact e5 h (by simp [hh]) x hx
    cases h2 with
    | run hg e hd => exact fin e rfl rfl (.run hg hd)
    | want j d g hg hd hs e he => exact fin e rfl rfl (.want j d g hg hd hs he)
    | pass j d g t hg hd hs hne => exact fin ⟨.cst undef, [], true⟩ (by cases o.dst <;> rfl) rfl (.pass j d g t hg hd hs hne rfl)
    | skip j d g xs hg hd hs => exact fin ⟨.cst undef, [], true⟩ (by cases o.dst <;> rfl) rfl (.skip j d g xs hg hd hs rfl)
   ·cases h1
  ·cases h
variable {c : Cx} {F : Nat -> Prop}
theorem DS.wp (hT : dI P E.TI) (hE : oW P E) {o : Oper} {s : TS} {l : Lb} (h : DS E ops o s l) {a : Act} {w : World} (hr : Rel c F s a w) {Q : Exit -> Act -> World -> Prop} {K : Act -> World -> Prop} (nn : Nat) (hK : ∀ (a' : Act) (w' : World), Rel c F (s.app o.dst l.e) a' w' -> K a' w') : wpOpIn c.xQ nn P ops Q l.i K a w := by
 unfold wpOpIn
 rw [h.at_]
 simp only
 cases h.way with
 | run hg hd =>
  rw [if_pos (by simp [Region.wanted, hg])]
  exact Dh (P := P) (c := c) (F := F) hT hE hd nn a w K Q hr fun s' a' w' h1 h2 => hK a' w' (h1 ▸ h2)
 | want j d g hg hd hs he =>
  obtain ⟨π, hm⟩ := id hr
  rw [if_pos (by simp [Region.wanted, hg, hm.yields hd hs])]
  exact Dh (P := P) (c := c) (F := F) hT hE he nn a w K Q hr fun s' a' w' h1 h2 => hK a' w' (h1 ▸ h2)
 | pass j d g t hg hd hs hne he =>
  obtain ⟨π, hm⟩ := id hr
  rw [if_neg (by simp [Region.wanted, hg, hm.yields hd hs]; exact hne)]
  refine ⟨fun _ _ => trivial, hK _ _ ⟨π, ?_⟩⟩
  have := hm.put o.dst (x := .cst undef) (v := undef) rfl
  rw [he]
  exact this.same (by cases o.dst <;> rfl) (by cases o.dst <;> rfl)
 | skip j d g xs hg hd hs he =>
  obtain ⟨π, hm⟩ := id hr
  rw [if_neg (by simp [Region.wanted, hg, hm.amG hd hs])]
  refine ⟨fun _ _ => trivial, hK _ _ ⟨π, ?_⟩⟩
  have := hm.put o.dst (x := .cst undef) (v := undef) rfl
  rw [he]
  exact this.same (by cases o.dst <;> rfl) (by cases o.dst <;> rfl)
def rem (n : Nat) (listed : Array Bool) : List Nat := (List.range n).filter fun i => !listed.getD i true
theorem JW {n : Nat} {listed : Array Bool} {i : Nat} : i ∈ rem n listed ↔ i < n /\ listed.getD i true = false := by
 simp [rem]
theorem aC' {n : Nat} {listed : Array Bool} {i : Nat} (h : i ∈ rem n listed) (hs : listed.size = n) {A B : List Nat} (e : rem n listed = A ++ i :: B) : (∀ x ∈ A, x < i) /\ rem n (listed.setIfInBounds i true) = A ++ B := by
 have hp : (rem n listed).Pairwise (· < ·) := List.Pairwise.filter _ List.pairwise_lt_range
 rw [e] at hp
 obtain ⟨h1, h2, h3⟩ := List.pairwise_append.1 hp
 have h4 := List.pairwise_cons.1 h2
 have hin : i < n := (JW.1 h).1
 refine ⟨fun x hx => h3 x hx i (by simp), ?_⟩
 have e2 : rem n (listed.setIfInBounds i true) = (rem n listed).filter fun j => j != i := by
  unfold rem
  rw [List.filter_filter]
  apply List.filter_congr
  intro j hj
  by_cases hji : j = i
  ·subst hji
   have : (listed.setIfInBounds j true).getD j true = true := by simp [Array.getD_eq_getD_getElem?, hs, hin]
   simp [this]
  ·have : (listed.setIfInBounds i true).getD j true = listed.getD j true := by simp [Array.getD_eq_getD_getElem?, Array.getElem?_setIfInBounds_ne (fun q => hji q.symm)]
   rw [this]
   simp [hji]
 rw [e2, e, List.filter_append, List.filter_cons]
 simp only [bne_self_eq_false, Bool.false_eq_true, if_false]
 have f1 : A.filter (fun j => j != i) = A := List.filter_eq_self.2 fun x hx => by have := h3 x hx i (by simp); simp; omega
 have f2 : B.filter (fun j => j != i) = B := List.filter_eq_self.2 fun x hx => by have := h4.1 x hx; simp; omega
 rw [f1, f2]
def Zw (ops : Array Oper) (listed : Array Bool) : Prop :=
 ∀ (i : Nat) (o : Oper), ops[i]? = some o -> listed.getD i false = true -> ∀ ed ∈ o.after, Region.binds .any ed = true -> listed.getD ed.on false = true
theorem al9 {listed : Array Bool} (hc : Zw ops listed) : ∀ (f : Nat) (o : Oper) (x : Nat), (∀ ed ∈ o.after, Region.binds .any ed = true -> listed.getD ed.on false = true) -> VC ops f o x = true -> listed.getD x false = true
 | 0, _, _, _, h => by simp [VC] at h
 | f + 1, o, x, ho, h => by
  simp only [VC, List.any_eq_true, bC, Bool.or_eq_true, beq_iff_eq] at h
  obtain ⟨ed, BP, hb, h⟩ := h
  have hl := ho ed (by simpa using BP) hb
  rcases h with rfl | h
  ·exact hl
  ·split at h
   ·rename_i oe he
    exact al9 hc f oe x (hc _ oe he hl) h
   ·cases h
theorem ae1 {listed : Array Bool} {j k : Nat} (h : listed.getD j false = true) : (listed.setIfInBounds k true).getD j false = true := by
 by_cases e : k = j
 ·subst e
  have : k < listed.size := by
   by_cases q : k < listed.size
   ·exact q
   ·simp [Array.getD, q] at h
  simp [Array.getD_eq_getD_getElem?, this]
 ·rw [Array.getD_eq_getD_getElem?, Array.getElem?_setIfInBounds_ne e, <- Array.getD_eq_getD_getElem?]; exact h
theorem asY (nn : Nat) (hT : dI P E.TI) (hE : oW P E) (hd : SS ops = true) {t : TS} {Q : Exit -> Act -> World -> Prop} (hQ : ∀ (a' : Act) (w' : World), Rel c F t a' w' -> Q .normal a' w') :
  ∀ (fuel : Nat) (listed : Array Bool) (s : TS) (a : Act) (w : World) (ll : List Lb), listed.size = ops.size -> Zw ops listed -> ll.length <= fuel -> ll.map Lb.i = rem ops.size listed -> RL E ops ll s t -> ll.Pairwise (fun x y => J3 ops x.lab y.lab = true) -> Rel c F s a w -> wpAnyIn c.xQ nn P .any ops Q fuel listed a w := by
 simp only [SS, List.all_eq_true, List.mem_range] at hd
 have aw0 : ∀ (listed : Array Bool), listed.size = ops.size -> Region.ready .any ops listed = [] -> rem ops.size listed = [] := fun listed hs hr => by
  cases e : rem ops.size listed with
  | nil => rfl
  | cons i l =>
   exfalso
   have hi : i ∈ rem ops.size listed := by rw [e]; simp
   obtain ⟨h1, h2⟩ := JW.1 hi
   have ho : ops[i]? = some ops[i] := Array.getElem?_eq_getElem h1
   have : i ∈ Region.ready .any ops listed := by
    refine mem_ready.2 ⟨h2, ops[i], ho, fun ed BP hb => ?_⟩
    have hdi := hd i h1
    rw [ho] at hdi
    simp only [List.all_eq_true, Bool.or_eq_true, fH] at hdi
    have hlt : ed.on < i := (hdi ed (by simpa using BP)).resolve_left (by rw [hb]; simp)
    cases hl : listed.getD ed.on true with
    | true =>
     have hon : ed.on < listed.size := by omega
     have e5 : listed.getD ed.on false = listed.getD ed.on true := by simp [Array.getD, hon]
     rw [e5, hl]
    | false =>
     have hm : ed.on ∈ rem ops.size listed := JW.2 ⟨by omega, hl⟩
     have hp : (rem ops.size listed).Pairwise (· < ·) := List.Pairwise.filter _ List.pairwise_lt_range
     rw [e] at hm hp
     rcases List.mem_cons.1 hm with q | q
     ·omega
     ·have := (List.pairwise_cons.1 hp).1 _ q; omega
   rw [hr] at this; cases this
 have hend : ∀ {s : TS} {a : Act} {w : World}, RL E ops [] s t -> Rel c F s a w -> Q .normal a w := fun h hr => by
  cases h with
  | nil h => obtain ⟨π, hm⟩ := hr; exact hQ _ _ ⟨π, hm.same h.sl.symm h.ob.symm⟩
 intro fuel
 induction fuel with
 | zero =>
  intro listed s a w ll hs hc hlen hl h hp hr
  have e0 : ll = [] := List.eq_nil_of_length_eq_zero (by omega)
  subst e0
  have e : rem ops.size listed = [] := hl.symm
  refine ⟨?_, hend h hr⟩
  cases er : Region.ready .any ops listed with
  | nil => rfl
  | cons i l =>
   have hi : i ∈ Region.ready .any ops listed := by rw [er]; simp
   obtain ⟨h1, o, h2, _⟩ := mem_ready.1 hi
   have : i ∈ rem ops.size listed := JW.2 ⟨(Array.getElem?_eq_some_iff.1 h2).1, h1⟩
   rw [e] at this; cases this
 | succ fuel ih =>
  intro listed s a w ll hs hc hlen hl h hp hr
  refine ⟨fun hn => ?_, fun i hi => ?_⟩
  ·have e0 : ll = [] := List.eq_nil_of_length_eq_zero (by rw [<- List.length_map (f := Lb.i), hl, aw0 listed hs hn]; rfl)
   subst e0
   exact hend h hr
  ·obtain ⟨h1, o, h2, h3⟩ := mem_ready.1 hi
   have hlt : i < ops.size := (Array.getElem?_eq_some_iff.1 h2).1
   have hmr : i ∈ rem ops.size listed := JW.2 ⟨hlt, h1⟩
   have hml : i ∈ ll.map Lb.i := by rw [hl]; exact hmr
   obtain ⟨x, hx, rfl⟩ := List.mem_map.1 hml
   obtain ⟨pre, post, rfl⟩ := List.append_of_mem hx
   have afN : rem ops.size listed = pre.map Lb.i ++ x.i :: post.map Lb.i := by rw [<- hl]; simp
   obtain ⟨e2, e3⟩ := aC' hmr hs afN
   have hpp := List.pairwise_append.1 hp
   have hall : ∀ y ∈ pre, ∃ oy ox, ops[y.i]? = some oy /\ ops[x.i]? = some ox /\ MN ops oy ox = true /\ tJ (y.e.u.map (·.1)) x.rd = true /\ tJ (y.e.u.map (·.1)) (x.e.u.map (·.1)) = true /\ tJ (x.e.u.map (·.1)) y.rd = true := fun y hy => by
    have hyx := hpp.2.2 y hy x (by simp)
    simp only [J3, Lb.lab, h2] at hyx
    split at hyx
    ·rename_i oy ox g1 g2
     obtain rfl := aC g2
     simp only [Bool.or_eq_true, bC] at hyx
     have hym : y.i ∈ rem ops.size listed := by rw [afN]; simp only [List.mem_append, List.mem_map]; exact .inl ⟨y, hy, rfl⟩
     have hun : listed.getD y.i true = false := (JW.1 hym).2
     have hxs : y.i < listed.size := by have := (JW.1 hym).1; omega
     have e5 : listed.getD y.i false = listed.getD y.i true := by simp [Array.getD, hxs]
     rcases hyx with (hyx | hyx) | hyx
     rotate_left 2
     ·have := al9 hc 8 _ _ (fun ed BP hb => h3 ed BP hb) hyx
      rw [e5, hun] at this; cases this
     ·exfalso
      simp only [waits, List.any_eq_true, bC, beq_iff_eq] at hyx
      obtain ⟨ed, BP, q1, q2⟩ := hyx
      have hl' := h3 ed (by simpa using BP) q2
      rw [q1] at hl'
      rw [e5, hun] at hl'; cases hl'
     ·exact ⟨oy, _, g1, h2, hyx.1.1.1, hyx.1.1.2, hyx.1.2, hyx.2⟩
    ·cases hyx
   have h4 := RL.bubble hE pre hall h
   cases h4 with
   | cons hd4 hr4 =>
    refine hd4.wp hT hE hr nn fun a' w' hr' => ?_
    refine ih (listed.setIfInBounds x.i true) _ a' w' (pre ++ post) (by simpa using hs) ?_ ?_ ?_ hr4 ?_ hr'
    ·intro i oi hi TW ed BP hb
     by_cases e : x.i = i
     ·subst e
      obtain rfl := aC (h2.symm.trans hi)
      exact ae1 (h3 ed BP hb)
     ·rw [Array.getD_eq_getD_getElem?, Array.getElem?_setIfInBounds_ne e, <- Array.getD_eq_getD_getElem?] at TW
      exact ae1 (hc i oi hi TW ed BP hb)
    ·simp only [List.length_append, List.length_cons] at hlen ⊢; omega
    ·rw [e3]; simp
    ·exact List.pairwise_append.2 ⟨hpp.1, (List.pairwise_cons.1 hpp.2.1).2, fun y hy z hz => hpp.2.2 y hy z (by simp [hz])⟩
theorem aCU (wL : P.follows .mixedOrders = true) (hT : dI P E.TI) (hE : oW P E) {id : Nat} {s : TS} (hd : SS ops = true) {α : Type} {k : TS -> Option α} {r : α} (h : prun E ops 0 ops.toList [] s k = some r) : lD P c F (.region id ops true) (fun e p => e = .normal /\ k p = some r) s := fun nn a w ⟨Ds, hD, π, hm⟩ => by
 obtain ⟨ll, t, e1, e2, e3, e4, _⟩ := ai4 (ops := ops) hT hE ops.toList 0 [] s (fun j => by simp) h
 refine wpIn_region_any wL ?_
 refine asY (c := c.add Ds) (F := but F Ds) nn hT hE hd (t := t) (fun a' w' hr => ⟨t, ⟨rfl, e3⟩, Ds, hD, hr⟩) ops.size _ s a _ ll (by simp) (fun i oi hi TW => by simp [Array.getD_eq_getD_getElem?, Array.getElem?_replicate] at TW; split at TW <;> simp_all) ?_ ?_ e2 e4 ⟨π, hm.drew⟩
 ·have : ll.length = (ll.map Lb.i).length := (List.length_map ..).symm
  rw [this, e1]; simp
 ·rw [e1]
  unfold rem
  rw [List.filter_eq_self.2]
  ·simp [List.range_eq_range']
  ·intro i hi
   have : i < ops.size := by simpa using hi
   simp [Array.getD_eq_getD_getElem?, this]
end
end
end Go.Proofs.YtfopcfnggdonkaaGreatDoor
