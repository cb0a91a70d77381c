/-
 The search for chains: what is walked by hand: the clipped list, one more number, the catch.
-/
import Derived.Test.YtfopcfnggdonkaaGreatDoorYD
import Derived.WalkKit
import Derived.ArgAppend
import Derived.Laws.Pointers
import Derived.Defers
import Derived.Recover
import Derived.Deep.RegionWith
namespace Go.Proofs.YtfopcfnggdonkaaGreatDoor
open Go.Proofs.Tryz
open Go.RowKit
set_option linter.unusedVariables false
set_option linter.unusedSimpArgs false
set_option maxRecDepth 100000 in
theorem ar' (p : Option Addr) (m cap : Nat) (h1 : m <= cap) (h2 : cap <= maxLen) (W : World) : Calls prog 73 #[.slice p m cap] W fun e W' => W = W' /\ e = .returned (.slice p m m) := by
 go_enter func73, Tryz.ntmps73
 go_wp2
 go_ret
 exact ⟨rfl, rfl⟩
theorem aq1 (v : Value) (w : World) : (Instr.typeAssert (.iface 31 v) 20 31 false).run prog w = .ok v w := by kernel_rfl
theorem ar7 (p : Addr) (x l : Value) (w : World) (hl : ∃ q n cap, l = .slice q n cap) (hc : w.cell? p = some x) (hz : w.frozen? p = false) :
  CallsD prog 159 #[.pointer (some p)] (.panicking [{ v := .iface 31 l, recovered := false }]) w fun e u' w' =>
   e = .returned (.tuple #[]) /\ u' = .panicking [{ v := .iface 31 l, recovered := true }] /\ w' = w.setCell p l := by
 obtain ⟨q, n, cap, rfl⟩ := hl
 refine callsD_of_wpS func159 rfl fun c₀ cs hu => ?_
 apply wpS_seq
 apply wpS_region
 simp [wpOpsS, go_sem, recoverD, hu, Tryz.ntmps159, Exit.thenS]
 apply wpS_seq
 apply wpS_region
 simp [wpOpsS, go_sem, recoverD, Exit.thenS]
 refine wpS_cond (t := true) (by simp [Act.eval, Array.replicate]) ?_
 simp only [if_true]
 apply wpS_region
 simp [wpOpsS, go_sem, aq1, hc, hz, bodyPostS, results, Tryz.results159]
theorem acE {W1 : World} {p : Option Addr} {L : List Int} {g : Nat} {j : Int} (hL : 0 < L.length -> ∃ b o, p = some ⟨b, o, none⟩ /\ ∀ i, i < L.length -> W1.cell? ⟨b, o + i, none⟩ = some (.int .i64 (L.getD i 0))) (hg : W1.cell? ⟨g, 0, none⟩ = some (.int .i64 j)) (hb : ((L.length : Int) + 1) * 8 <= 140737488355328) :
  ∃ cap cs, (Builtin.append_ #[31, 31] 31 #[.slice p L.length L.length, .slice (some ⟨g, 0, none⟩) 1 1]).run prog W1 = .ok (.slice (some ⟨W1.heap.size, 0, none⟩) (L.length + 1) cap) (W1.drew.alloc (.cells cs 3)) /\ L.length + 1 <= cap /\ cap <= maxLen /\ ∀ i, i < L.length + 1 -> cs[i]? = some (.int .i64 ((L ++ [j]).getD i 0)) := by
 obtain ⟨i0, hi, hz0, hz1, hz2⟩ : ∃ i, prog.info? 3 = some i /\ i.zero = some (.int .i64 0) /\ i.size = 1 /\ i.bytes = 8 := by
  have h : (prog.info? 3).map (fun i => (i.zero, i.size, i.bytes)) = some (some (.int .i64 0), 1, 8) := by kernel_rfl
  obtain ⟨i, h1, h2⟩ := Option.map_eq_some_iff.1 h
  simp only [Prod.mk.injEq] at h2
  exact ⟨i, h1, h2.1, h2.2.1, h2.2.2⟩
 have ht : prog.underlying 31 = some (.slice 3) := by kernel_rfl
 have f1 : (Builtin.firstCells i0.size L.length (.slice p L.length L.length)).run prog W1.drew = .ok (L.map (Value.int .i64)).toArray W1.drew := by
  rw [hz1]
  rcases Nat.eq_zero_or_pos L.length with h0 | h0
  ·have : L = [] := List.length_eq_zero_iff.1 h0
   subst this
   cases p <;> simp [Builtin.firstCells, loadCells, loadCellsFrom]
  ·obtain ⟨b, o, rfl, hc⟩ := hL h0
   refine run_firstCells_some W1.drew 1 L.length ⟨b, o, none⟩ L.length L.length _ (by simp) fun k u hu => ?_
   obtain ⟨h1, h2⟩ := List.getElem?_eq_some_iff.1 hu
   simp only [List.length_map] at h1
   have := hc k h1
   rw [Addr.add_lit]
   show W1.cell? _ = _
   rw [this, <- h2]
   simp [List.getD_eq_getElem?_getD, h1]
 have f2 : (Builtin.firstCells i0.size 1 (.slice (some ⟨g, 0, none⟩) 1 1)).run prog W1.drew = .ok [Value.int .i64 j].toArray W1.drew := by
  rw [hz1]
  refine run_firstCells_some W1.drew 1 1 ⟨g, 0, none⟩ 1 1 _ (by simp) fun k u hu => ?_
  cases k with
  | zero => simp at hu; subst hu; rw [Addr.add_lit]; exact hg
  | succ k => simp at hu
 have hrun := Jt (P := prog) (t := 31) (ty := 31) ht hi hz0 f1 f2 (by omega) (by omega) (growslice_fits (by omega) (by rw [hz2]; omega))
 refine ⟨_, _, hrun, grownCap_ge W1 _ _ _, grownCap_le_maxLen W1 _ _ _ (by simp [maxLen]; omega), fun i hi' => ?_⟩
 rw [Array.getElem?_append_left (by simpa using hi')]
 by_cases h : i < L.length
 ·simp [List.getD_eq_getElem?_getD, List.getElem?_append, h]
 ·obtain rfl : i = L.length := by omega
  simp [List.getD_eq_getElem?_getD]
theorem alH {P : Program} {ops : Array Oper} {o : Oper} {a : Act} {w : World} {K : Act -> World -> Prop} {Q : Exit -> Act -> World -> Prop} {E : Prop}
  (hg : o.guard = none) (s x : Operand) (t : TypeId) (hop : o.op = Op.call { callee := Callee.builtin Builtin.append, args := #[s, x], argTypes := #[t, t] })
  (v u : Value) (hs : a.eval s = v) (hx : a.eval x = u) {v' : Value} {w' : World} (hr : (Builtin.append_ #[t, t] o.type #[v, u]).run P w = .ok v' w') (hK : K (a.put o.dst v') w') :
  if Region.wanted o (yielded ops a.tmps) = true then Oper.wp P o a w K Q else E := by
 have hw : Region.wanted o (yielded ops a.tmps) = true := by simp [Region.wanted, hg]
 rw [if_pos hw]
 unfold Oper.wp
 simp [execOp, hop, resolve, invoke, builtin, hs, hx, hr, Result.andThen]
 exact hK
theorem Zf {P : Program} {ops : Array Oper} {o : Oper} {a : Act} {w : World} {K : Act -> World -> Prop} {Q : Exit -> Act -> World -> Prop} {E : Prop} (f : FuncId) (A : Array Operand) (ts : Array TypeId) (args : Array Value) {R : Ending -> World -> Prop}
  (hg : o.guard = none) (hop : o.op = Op.call { callee := Callee.value (Operand.func f), args := A, argTypes := ts }) (hev : A.map a.eval = args) (hcf : ∀ (xs : Array Value) (w : World), (callFunc f xs).run P w = .ok (.enter f xs) w) (hc : Calls P f args w R)
  (hK : ∀ e w', R e w' -> match e, w' with
   | .returned v, w' => K (a.put o.dst v) w'
   | .panicked chain, w' => Q (.panic chain) a w'
   | .outgrown, _ => LetsOut Q) :
  if Region.wanted o (yielded ops a.tmps) = true then Oper.wp P o a w K Q else E := by
 have hw : Region.wanted o (yielded ops a.tmps) = true := by simp [Region.wanted, hg]
 rw [if_pos hw]
 have hrun : (execOp a.eval o).run P w = .ok (.enter f args) w := by
  subst hev
  simp [execOp, hop, resolve, invoke, Deferred.ofValue, Act.eval, hcf, Result.andThen]
 unfold Oper.wp
 rw [hrun]
 exact hc.mono hK
theorem Dq {P : Program} {f : Nat} {fn : Func} (hf : P.funcs[f]? = some fn) (hb : fn.body.isSome = true) (hname : (fn.name == "runtime.NumGoroutine") = false) (xs : Array Value) (w : World) : (callFunc f xs).run P w = .ok (.enter f xs) w := by
 have hname' : ¬ fn.name = "runtime.NumGoroutine" := by simpa using hname
 simp [callFunc, hf, hname']
 intro h
 rw [h] at hb
 cases hb
theorem auI (xs : Array Value) (w : World) : (callFunc 73 xs).run prog w = .ok (.enter 73 xs) w := Dq func73 (by kernel_rfl) (by kernel_rfl) xs w
theorem aeI (xs : Array Value) (w : World) : (callFunc 160 xs).run prog w = .ok (.enter 160 xs) w := Dq func160 (by kernel_rfl) (by kernel_rfl) xs w
theorem alI {ops : Array Oper} {o : Oper} {a : Act} {w : World} {K : Act -> World -> Prop} {Q : Exit -> Act -> World -> Prop} {E : Prop} {A : Array Operand} {ts : Array TypeId} {p : Option Addr} {m cap : Nat} (h1 : m <= cap) (h2 : cap <= maxLen)
  (hg : o.guard = none) (hop : o.op = Op.call { callee := Callee.value (Operand.func 73), args := A, argTypes := ts }) (hev : A.map a.eval = #[.slice p m cap]) (hK : K (a.put o.dst (.slice p m m)) w) :
  if Region.wanted o (yielded ops a.tmps) = true then Oper.wp prog o a w K Q else E :=
 Zf 73 A ts _ hg hop hev auI (ar' p m cap h1 h2 w) fun e w' h => by
  obtain ⟨rfl, rfl⟩ := h
  exact hK
theorem aD1 {ops : Array Oper} {o : Oper} {a : Act} {w : World} {K : Act -> World -> Prop} {Q : Exit -> Act -> World -> Prop} {E : Prop} {A : Array Operand} {ts : Array TypeId} {args : Array Value} {R : Ending -> World -> Prop} (hc : Calls prog 160 args w R)
  (hg : o.guard = none) (hop : o.op = Op.call { callee := Callee.value (Operand.func 160), args := A, argTypes := ts }) (hev : A.map a.eval = args)
  (hK : ∀ e w', R e w' -> match e, w' with
   | .returned v, w' => K (a.put o.dst v) w'
   | .panicked chain, w' => Q (.panic chain) a w'
   | .outgrown, _ => LetsOut Q) :
  if Region.wanted o (yielded ops a.tmps) = true then Oper.wp prog o a w K Q else E :=
 Zf 160 A ts _ hg hop hev aeI hc hK
theorem aD2 {ops : Array Oper} {o : Oper} {a : Act} {w : World} {K : Act -> World -> Prop} {Q : Exit -> Act -> World -> Prop} {E : Prop} {A : Array Operand} {ts : Array TypeId} {args : Array Value} {R : Ending -> World -> Prop} (hc : Calls prog 160 args w R)
  (hg : o.guard = none) (hop : o.op = Op.call { callee := Callee.value (Operand.func 160), args := A, argTypes := ts }) (hev : A.map a.eval = args)
  (hK : ∀ e w', R e w' -> ∃ chain, e = .panicked chain /\ Q (.panic chain) a w') (hF : Hid False -> K (a.put o.dst undef) w) :
  if Region.wanted o (yielded ops a.tmps) = true then Oper.wp prog o a w K Q else E :=
 Zf 160 A ts _ hg hop hev aeI hc fun e w' h => by
  obtain ⟨ch, rfl, hq⟩ := hK e w' h
  exact hq
end Go.Proofs.YtfopcfnggdonkaaGreatDoor
