/-
 coalitions: what it yields. By hand, over the kit's walk.
-/
import Derived.Test.YtfopcfnggdonkaaGreatDoorF3
import Derived.RangeFuncKeeps
import Derived.RangeFuncBound
import Derived.RangeFuncLeaves
import Derived.WalkKit
import Derived.OwnWalkIn
import Derived.TacticsInMore
import Derived.LoopNIn
import Derived.LoopIn
import Derived.ArgAppend
import Derived.Laws.EntriesVeiled
namespace Go.Proofs.YtfopcfnggdonkaaGreatDoor
open Go.Proofs.Tryz
open Go.RowKit
set_option linter.unusedVariables false
attribute [local go_sem] Oper.semAt_some
set_option maxRecDepth 100000 in
set_option maxHeartbeats 1000000 in
theorem asA (n : Nat) (p : Option Addr) (m cap : Nat) (h1 : m <= cap) (h2 : cap <= maxLen) (W : World) : CallsIn Fence.wide n prog 73 #[.slice p m cap] W fun e W' => W' = W /\ e = .returned (.slice p m m) := by
 refine callsIn_of_wp func73 rfl trivial ?_ rfl
 simp only [Tryz.ntmps73, List.size_toArray, List.length_cons, List.length_nil, Nat.reduceAdd, Nat.reduceSub, Array.replicate_succ, Array.replicate_zero, List.push_toArray, List.append_toArray, List.nil_append, List.cons_append]
 gi_wp2
 go_ret
 exact ⟨rfl, rfl⟩
theorem aJ6 {F : Fence} {n : Nat} {P : Program} {w : World} {ops : Array Oper} {rest : List Oper} {o : Oper} {a : Act} {Q : Exit -> Act -> World -> Prop} (hg : o.guard = none) (s x : Operand) (t : TypeId) (hop : o.op = Op.call { callee := Callee.builtin Builtin.append, args := #[s, x], argTypes := #[t, t] })
  {v' : Value} {w' : World} (hrun : (Builtin.append_ #[t, t] o.type #[a.eval s, a.eval x]).run P w = .ok v' w') (hK : wpListIn F n P ops Q rest (a.put o.dst v') w') : wpListIn F n P ops Q (o :: rest) a w := by
 refine wpListIn_plain hg fun K hK' => ?_
 unfold Oper.wpIn
 refine ⟨?_, ?_⟩
 ·simp [Oper.about, hop, resolve, Target.leads, Sem.run_pure]
 ·rw [Oper.semAt_plain F _ _ (by rw [hop]; intro c hc'; cases hc')]
  simp [execOp, hop, resolve, invoke, builtin, hrun, Result.andThen]
  exact hK' _ _ hK
def gr (N : Nat) : Nat -> List Int -> Nat -> List (List Int)
 | 0, _, _ => []
 | k + 1, L, i => (List.range' i (N - i)).flatMap fun (j : Nat) => (L ++ [(j : Int)]) :: gr N k (L ++ [(j : Int)]) (j + 1)
abbrev LI : DT := .sl (.int .i64)
theorem ae6 {N k i : Nat} {L : List Int} (h : i < N) : gr N (k + 1) L i = (L ++ [(i : Int)]) :: (gr N k (L ++ [(i : Int)]) (i + 1) ++ gr N (k + 1) L (i + 1)) := by
 have : N - i = (N - (i + 1)) + 1 := by omega
 simp [gr, this, List.range'_succ]
theorem avG {N k i : Nat} {L : List Int} (h : N <= i) : gr N (k + 1) L i = [] := by
 have : N - i = 0 := by omega
 simp [gr, this]
section
variable (l : Nat) (J : Nat -> (Nat -> Prop) -> World -> Prop) (Jx : World -> Prop) (W Wb : World) (S V : Nat -> Prop) (xs : List (List Int)) (N : Nat) (size : Int) (bs os bc oc yb gb : Nat)
def JH (Wb : World) (V : Nat -> Prop) (M : Nat -> Prop) (A : World) : Prop := ∀ b, V b -> b < A.heap.size /\ A.heap[b]? = Wb.heap[b]? /\ ¬ M b
set_option maxRecDepth 100000 in
set_option maxHeartbeats 4000000 in
theorem avH (hN : (N : Int) * 8 <= 140737488355328) (hJ : ∀ k M A B, J k M A -> Below A.heap.size A B -> J k M B) (hM : ∀ k M A, J k M A -> ∀ b, M b -> b < A.heap.size)
  (hY : ∀ k M W1 v x, J k M W1 -> xs[k]? = some x -> LI.val x W1 (fun b => S b \/ (W.heap.size <= b /\ b < W1.heap.size /\ ¬ M b)) v ->
   ∀ n, YieldAt Fence.wide n prog l #[v] W1 fun e W' =>
    (e = .returned (.bool true) /\ ∃ M', J (k + 1) M' W' /\ W1.heap.size <= W'.heap.size /\ (∀ b, b < W1.heap.size -> ¬ M b -> W'.heap[b]? = W1.heap[b]?) /\ ∀ b, M' b -> M b \/ W1.heap.size <= b) \/ (e = .returned (.bool false) /\ Jx W'))
  (vs : V bs) (vc : V bc) (vy : V yb) (vg : V gb) (vS : ∀ b, S b -> V b) (pw : Option Addr) (cw : Nat)
  (cs : Wb.cell? ⟨bs, os, none⟩ = some (.int .i64 size)) (cc : Wb.cell? ⟨bc, oc + 1, none⟩ = some (.slice pw N cw)) (cy : Wb.cell? ⟨yb, 0, none⟩ = some (.func (.yield l) #[] #[]))
  (cg : Wb.cell? ⟨gb, 0, none⟩ = some (.func (.func 72) #[] #[.pointer (some ⟨bs, os, none⟩), .pointer (some ⟨bc, oc, none⟩), .pointer (some ⟨yb, 0, none⟩), .pointer (some ⟨gb, 0, none⟩)])) :
  ∀ (k : Nat) (L : List Int) (i : Nat) (pre rest : List (List Int)) (M : Nat -> Prop) (W1 : World) (v : Value) (n tot : Nat), tot + rest.length = xs.length -> size = L.length + k -> L.length <= i -> i <= N -> xs = pre ++ (gr N k L i ++ rest) -> J pre.length M W1 -> JH Wb V M W1 ->
   LI.val L W1 (fun b => S b \/ (W.heap.size <= b /\ b < W1.heap.size /\ ¬ M b)) v -> W.heap.size <= W1.heap.size ->
   CallsIn Fence.wide n prog 72 #[v, .int .i64 i, .pointer (some ⟨bs, os, none⟩), .pointer (some ⟨bc, oc, none⟩), .pointer (some ⟨yb, 0, none⟩), .pointer (some ⟨gb, 0, none⟩)] W1 fun e W' =>
    (e = .returned (.bool true) /\ ∃ M', J tot M' W' /\ W1.heap.size <= W'.heap.size /\ (∀ b, b < W1.heap.size -> ¬ M b -> W'.heap[b]? = W1.heap[b]?) /\ ∀ b, M' b -> M b \/ W1.heap.size <= b) \/ (e = .returned (.bool false) /\ Jx W') := by
 intro k
 induction k with
 | zero =>
  intro L i pre rest M W1 v n tot htot hk hLi hi hxs hj hv hL hW
  have cs1 : W1.cell? ⟨bs, os, none⟩ = some (.int .i64 size) := (World.cell?_of_block (a := ⟨bs, os, none⟩) (hv bs vs).2.1).trans cs
  obtain ⟨p, cap, rfl, h2, h3, h4, _, h6⟩ := hL
  obtain rfl : size = L.length := by omega
  clear hk
  have hx : pre.length = tot := by rw [hxs] at htot; simp [gr] at htot; omega
  rw [hx] at hj
  clear hxs htot hx
  refine callsIn_of_wp func72 rfl trivial ?_ rfl
  simp only [Tryz.ntmps72, List.size_toArray, List.length_cons, List.length_nil, Nat.reduceAdd, Nat.reduceSub, Array.replicate_succ, Array.replicate_zero, List.push_toArray, List.append_toArray, List.nil_append, List.cons_append]
  gi_wp2
  go_ret
  exact .inl ⟨rfl, M, hj, Nat.le_refl _, fun _ _ _ => rfl, fun b hb => .inl hb⟩
 | succ k ih =>
  intro L i pre rest M W1 v n tot htot hk hLi hi hxs hj hv hL hW
  have cell : ∀ {b o : Nat} {x : Value} {M2 : Nat -> Prop} {W2 : World}, V b -> Wb.cell? ⟨b, o, none⟩ = some x -> JH Wb V M2 W2 -> W2.cell? ⟨b, o, none⟩ = some x := fun hb hc h => (World.cell?_of_block (h _ hb).2.1).trans hc
  have cs1 := cell vs cs hv
  have hL0 := hL
  obtain ⟨p, cap, rfl, h2, h3, h4, _, h6⟩ := hL
  obtain ⟨v0, hv0⟩ : ∃ v0, v0 = Value.slice p L.length cap := ⟨_, rfl⟩
  rw [<- hv0] at hL0
  have hne : ((L.length : Int) == size) = false := by simp; omega
  refine callsIn_of_wp func72 rfl trivial ?_ rfl
  simp only [Tryz.ntmps72, List.size_toArray, List.length_cons, List.length_nil, Nat.reduceAdd, Nat.reduceSub, Array.replicate_succ, Array.replicate_zero, List.push_toArray, List.append_toArray, List.nil_append, List.cons_append]
  gi_wp2
  gi_loopw [9] (fun p wr => ∃ (j : Nat) (pre' : List (List Int)) (M' : Nat -> Prop), p = .int .i64 j /\ i <= j /\ j <= N /\ xs = pre' ++ (gr N (k + 1) L j ++ rest) /\ J pre'.length M' wr /\ JH Wb V M' wr /\
    LI.val L wr (fun b => S b \/ (W.heap.size <= b /\ b < wr.heap.size /\ ¬ M' b)) v0 /\ W1.heap.size <= wr.heap.size /\ (∀ b, b < W1.heap.size -> ¬ M b -> wr.heap[b]? = W1.heap[b]?) /\ ∀ b, M' b -> M b \/ W1.heap.size <= b)
   (fun p _ => UQ N p)
  case atStart =>
   exact ⟨i, pre, M, rfl, Nat.le_refl _, hi, hxs, hj, hv, hL0, Nat.le_refl _, fun _ _ _ => rfl, fun b hb => .inl hb⟩
  case round =>
   obtain ⟨j, pre', M', rfl, hij, hjN, UB, hj', hv', hL', g1, g2, g3⟩ := hrel
   have cc1 := cell vc cc hv'
   have cy1 := cell vy cy hv'
   have cg1 := cell vg cg hv'
   by_cases hlt : j < N
   ·have hlt' : ((j : Int) < (N : Int)) := by omega
    have hlen : L.length <= j := by omega
    have hLv := hL'
    rw [hv0] at hL'
    obtain ⟨p2, cap0, e0, _, _, _, _, h6'⟩ := (DT.val_one (t := LI) rfl).1 hL'
    simp only [Value.slice.injEq] at e0
    obtain ⟨rfl, _, rfl⟩ := e0
    clear hv0 hL0 h6
    have hsz : ∀ o, (wr.alloc o).heap.size = wr.heap.size + 1 := fun o => by simp
    have hB1 : Below wr.heap.size wr (wr.alloc (.cells #[.int .i64 (j : Int)] 3)) := (Below.refl _ wr).alloc (Nat.le_refl _) _
    have hc1 : 0 < L.length -> ∃ b o, p = some ⟨b, o, none⟩ /\ ∀ i, i < L.length -> (wr.alloc (.cells #[.int .i64 (j : Int)] 3)).cell? ⟨b, o + i, none⟩ = some (.int .i64 (L.getD i 0)) := fun h0 => by
     obtain ⟨b, o, q1, q2, q3⟩ := h6' h0
     refine ⟨b, o, q1, fun i hi' => ?_⟩
     obtain ⟨u, r1, _, r3⟩ := q3 i hi' 0 (by decide)
     have hb : b < wr.heap.size := q2.elim (fun h => (hv' b (vS b h)).1) fun h => h.2.1
     rw [(hB1.cell (p := ⟨b, o + i, none⟩) hb)]
     have r1' : wr.cell? ⟨b, o + i, none⟩ = some u := by simpa [DT.size] using r1
     rw [r1']
     exact congrArg some r3
    obtain ⟨cap2, cs2, hrun, k1, k2, k3⟩ := acE (W1 := wr.alloc (.cells #[.int .i64 (j : Int)] 3)) (g := wr.heap.size) (j := (j : Int)) hc1 ((rP (heap_alloc_new wr _)).trans rfl) (by omega)
    obtain ⟨Wn, TN⟩ : ∃ Wn, Wn = (wr.alloc (.cells #[.int .i64 (j : Int)] 3)).drew.alloc (.cells cs2 3) := ⟨_, rfl⟩
    have hBn : Below wr.heap.size wr Wn := by rw [TN]; exact (hB1.drew).alloc (by simp) _
    have hnew : Wn.heap[wr.heap.size + 1]? = some (.cells cs2 3) := by rw [TN]; have := heap_alloc_new (wr.alloc (.cells #[.int .i64 (j : Int)] 3)).drew (.cells cs2 3); simpa using this
    rw [<- TN, hsz] at hrun
    have hsn : Wn.heap.size = wr.heap.size + 2 := by rw [TN]; simp
    have av' := hM _ _ _ hj'
    have hvn : JH Wb V M' Wn := fun b hb => ⟨by have := (hv' b hb).1; omega, (hBn.block b (hv' b hb).1).trans (hv' b hb).2.1, (hv' b hb).2.2⟩
    have hval : LI.val (L ++ [(j : Int)]) Wn (fun b => S b \/ (W.heap.size <= b /\ b < Wn.heap.size /\ ¬ M' b)) (.slice (some ⟨wr.heap.size + 1, 0, none⟩) (L.length + 1) cap2) := by
     refine (DT.val_one (t := LI) rfl).2 ⟨_, _, by simp, by simpa using k1, k2, (fun h => by cases h), trivial, fun _ => ⟨wr.heap.size + 1, 0, rfl, .inr ⟨by omega, by omega, fun hm => by have := av' _ hm; omega⟩, fun i hi' c hc => ?_⟩⟩
     obtain rfl : c = 0 := by simp [DT.size] at hc; omega
     refine ⟨_, ?_, rfl, rfl⟩
     have := k3 i (by simpa using hi')
     rw [rP hnew]
     have e : 0 + i * (DT.int .i64).size + 0 = i := by simp [DT.size]
     rw [e]; exact this
    have hxk : xs[pre'.length]? = some (L ++ [(j : Int)]) := by rw [UB, ae6 hlt]; simp
    obtain ⟨vn, afQ⟩ : ∃ vn, vn = Value.slice (some ⟨wr.heap.size + 1, 0, none⟩) (L.length + 1) cap2 := ⟨_, rfl⟩
    rw [<- afQ] at hrun hval
    have Eg : xs = (pre' ++ [L ++ [(j : Int)]]) ++ (gr N k (L ++ [(j : Int)]) (j + 1) ++ (gr N (k + 1) L (j + 1) ++ rest)) := by rw [UB, ae6 hlt]; simp
    obtain ⟨VB, ht2⟩ : ∃ VB, VB = pre'.length + 1 + (gr N k (L ++ [(j : Int)]) (j + 1)).length := ⟨_, rfl⟩
    have Ue : YieldAt Fence.wide (n - 1) prog l #[vn] Wn fun e W' => (e = .returned (.bool true) /\ W'.cell? ⟨gb, 0, none⟩ = some (.func (.func 72) #[] #[.pointer (some ⟨bs, os, none⟩), .pointer (some ⟨bc, oc, none⟩), .pointer (some ⟨yb, 0, none⟩), .pointer (some ⟨gb, 0, none⟩)]) /\
      CallsIn Fence.wide (n - 1) prog 72 #[vn, .int .i64 ((j : Int) + 1), .pointer (some ⟨bs, os, none⟩), .pointer (some ⟨bc, oc, none⟩), .pointer (some ⟨yb, 0, none⟩), .pointer (some ⟨gb, 0, none⟩)] W' fun e W4 =>
       (e = .returned (.bool true) /\ ∃ M4, J VB M4 W4 /\ wr.heap.size <= W4.heap.size /\ (∀ b, b < wr.heap.size -> ¬ M' b -> W4.heap[b]? = wr.heap[b]?) /\ ∀ b, M4 b -> M' b \/ wr.heap.size <= b) \/ (e = .returned (.bool false) /\ Jx W4)) \/ (e = .returned (.bool false) /\ Jx W') := by
     refine (hY pre'.length M' Wn _ _ (hJ _ _ _ _ hj' hBn) hxk hval (n - 1)).mono fun e W3 h => ?_
     rcases h with ⟨he, M3, j3, z3, b3, m3⟩ | h
     ·have hv3 : JH Wb V M3 W3 := fun b hb => ⟨by have := (hvn b hb).1; omega, (b3 b (hvn b hb).1 (hvn b hb).2.2).trans (hvn b hb).2.1, fun hm => (m3 b hm).elim (hvn b hb).2.2 fun h => by have := (hvn b hb).1; omega⟩
      refine .inl ⟨he, cell vg cg hv3, (ih (L ++ [(j : Int)]) (j + 1) (pre' ++ [L ++ [(j : Int)]]) (gr N (k + 1) L (j + 1) ++ rest) M3 W3 vn (n - 1) VB (by rw [ht2, Eg]; simp; omega) (by simp; omega) (by simp; omega) (by omega) Eg (by simpa using j3) hv3 (DT.iD (fun b hb => ?_) hval) (by omega)).mono fun e W4 h4 => ?_⟩
      ·rcases hb with hb | ⟨q1, q2, q3⟩
       ·have := hvn b (vS b hb)
        exact ⟨.inl hb, b3 b this.1 this.2.2⟩
       ·exact ⟨.inr ⟨q1, by omega, fun hm => (m3 b hm).elim q3 fun h => by omega⟩, b3 b q2 q3⟩
      ·refine h4.imp (fun ⟨e4, M4, j4, z4, b4, m4⟩ => ⟨e4, M4, j4, by omega, fun b hb hm => ?_, fun b hb => ?_⟩) id
       ·rw [b4 b (by omega) fun h => (m3 b h).elim hm fun h => by omega, b3 b (by omega) hm, hBn.block b hb]
       ·rcases m4 b hb with h | h
        ·rcases m3 b h with h | h
         ·exact .inl h
         ·exact .inr (by omega)
        ·exact .inr (by omega)
     ·exact .inr h
    have cyN := cell vy cy hvn
    obtain ⟨fn, tmps, assign, body, hy, hR⟩ := Ue
    have e2 : VB = (pre' ++ (L ++ [(j : Int)]) :: gr N k (L ++ [(j : Int)]) (j + 1)).length := by rw [ht2]; simp; omega
    have aw5 : xs = (pre' ++ (L ++ [(j : Int)]) :: gr N k (L ++ [(j : Int)]) (j + 1)) ++ (gr N (k + 1) L (j + 1) ++ rest) := by rw [Eg]; simp
    have hsame : Wn = Wn := rfl
    clear ih hY hxs Eg UB htot hM hJ h6' hc1 hxk hval hvn afQ ht2 hnew TN hBn hB1 hk hne
    gi_wp2_with (first
     | (refine ⟨trivial, (fun h => by cases h), ?_⟩; refine (asA _ _ _ _ h2 h3 _).mono ?_; rintro e w' ⟨hw, rfl⟩; obtain rfl := hw.symm; clear hw)
     | (gi_at_builtin; refine aJ6 rfl _ _ 31 rfl hrun ?_)
     | ((try refine ⟨(fun h => by cases h), ?_⟩); refine hR.mono ?_; clear hR; rintro e W3 (⟨rfl, cg3, ih3⟩ | ⟨rfl, hx3⟩))
     | (refine ⟨trivial, (fun h => by cases h), ?_⟩; refine ih3.mono ?_; clear ih3; rintro e W4 (⟨rfl, M4, j4, z4, b4, m4⟩ | ⟨rfl, hx4⟩)))
    ·have hv4 : JH Wb V M4 W4 := fun b hb => ⟨by have := (hv' b hb).1; omega, (b4 b (hv' b hb).1 (hv' b hb).2.2).trans (hv' b hb).2.1, fun hm => (m4 b hm).elim (hv' b hb).2.2 fun h => by have := (hv' b hb).1; omega⟩
     refine ⟨⟨j + 1, _, M4, by simp, by omega, by omega, aw5, e2 ▸ j4, hv4, DT.iD (fun b hb => ?_) hLv, by omega, fun b hb hm => ?_, fun b hb => ?_⟩, by simp only [UQ]; omega⟩
     ·rcases hb with hb | ⟨q1, q2, q3⟩
      ·have := hv' b (vS b hb)
       exact ⟨.inl hb, b4 b this.1 this.2.2⟩
      ·exact ⟨.inr ⟨q1, by omega, fun hm => (m4 b hm).elim q3 fun h => by omega⟩, b4 b q2 q3⟩
     ·rw [b4 b (by omega) fun h => (g3 b h).elim hm fun h => by omega, g2 b hb hm]
     ·rcases m4 b hb with h | h
      ·exact g3 b h
      ·exact .inr (by omega)
    ·go_ret
     exact .inr ⟨rfl, hx4⟩
    ·refine ⟨fun _ h => (by cases h), ?_⟩
     gi_wp2
     go_ret
     exact .inr ⟨rfl, hx3⟩
   ·obtain rfl : j = N := by omega
    have hx : pre'.length = tot := by rw [UB, avG (Nat.le_refl _)] at htot; simp at htot; omega
    rw [hx] at hj'
    clear ih hY hxs UB htot hx
    gi_wp2
    go_ret
    exact .inl ⟨rfl, M', hj', g1, g2, g3⟩
set_option maxRecDepth 100000 in
set_option maxHeartbeats 4000000 in
theorem asF (w : World) (S : Nat -> Prop) (pw : Option Addr) (cw : Nat) (hN : (N : Int) * 8 <= 140737488355328) (h0 : 0 <= size) (hs : S bs) (hc : S bc) (cs : w.cell? ⟨bs, os, none⟩ = some (.int .i64 size)) (cc : w.cell? ⟨bc, oc + 1, none⟩ = some (.slice pw N cw)) :
  Yields prog 71 #[.pointer (some ⟨bs, os, none⟩), .pointer (some ⟨bc, oc, none⟩)] S w LI (gr N size.toNat [] 0) := by
 intro l J Jx W M hS hJ hM hY hj
 refine callsIn_wide (n := 0) |>.1 ?_
 refine callsIn_of_wp func71 rfl trivial ?_ rfl
 simp only [Tryz.ntmps71, List.size_toArray, List.length_cons, List.length_nil, Nat.reduceAdd, Nat.reduceSub, Array.replicate_succ, Array.replicate_zero, List.push_toArray, List.append_toArray, List.nil_append, List.cons_append]
 obtain ⟨Wa, hWa⟩ : ∃ Wa, Wa = W.alloc (.cells #[.func (.yield l) #[] #[]] 129) := ⟨_, rfl⟩
 obtain ⟨fv, hfv⟩ : ∃ fv, fv = Value.func (.func 72) #[] #[.pointer (some ⟨bs, os, none⟩), .pointer (some ⟨bc, oc, none⟩), .pointer (some ⟨W.heap.size, 0, none⟩), .pointer (some ⟨W.heap.size + 1, 0, none⟩)] := ⟨_, rfl⟩
 obtain ⟨Wd, hWd⟩ : ∃ Wd, Wd = Wa.alloc (.cells #[fv] 97) := ⟨_, rfl⟩
 have sa : Wa.heap.size = W.heap.size + 1 := by rw [hWa]; simp
 have na : Wd.heap[W.heap.size + 1]? = some (.cells #[fv] 97) := by rw [hWd, <- sa]; exact heap_alloc_new Wa _
 have na0 : Wa.heap[W.heap.size]? = some (.cells #[.func (.yield l) #[] #[]] 129) := by rw [hWa]; exact heap_alloc_new W _
 have hcd : Wd.cell? ⟨W.heap.size + 1, 0, none⟩ = some fv := (rP na).trans rfl
 have hBd : Below W.heap.size W Wd := by rw [hWd, hWa]; exact ((Below.refl _ _).alloc (Nat.le_refl _) _).alloc (by simp) _
 have hBe : Below (W.heap.size + 1) Wa Wd := by rw [hWd]; exact (Below.refl _ _).alloc (by omega) _
 have sd : Wd.heap.size = W.heap.size + 2 := by rw [hWd]; simp [sa]
 have hvd : JH Wd (fun b => S b \/ b = W.heap.size \/ b = W.heap.size + 1) M Wd := fun b hb => by
  rcases hb with hb | rfl | rfl
  ·exact ⟨by have := (hS b hb).1; omega, rfl, (hS b hb).2.2⟩
  ·exact ⟨by omega, rfl, fun hm => by have := hM _ _ _ hj _ hm; omega⟩
  ·exact ⟨by omega, rfl, fun hm => by have := hM _ _ _ hj _ hm; omega⟩
 have kS : ∀ {b o : Nat} {x : Value}, S b -> w.cell? ⟨b, o, none⟩ = some x -> Wd.cell? ⟨b, o, none⟩ = some x := fun {b o x} hb hx => by
  rw [hBd.cell (p := ⟨b, o, none⟩) (hS b hb).1, World.cell?_of_block (a := ⟨b, o, none⟩) (hS b hb).2.1]; exact hx
 have hgw := fun n => avH l J Jx W Wd S (fun b => S b \/ b = W.heap.size \/ b = W.heap.size + 1) (gr N size.toNat [] 0) N size bs os bc oc W.heap.size (W.heap.size + 1) hN hJ hM hY (.inl hs) (.inl hc) (.inr (.inl rfl)) (.inr (.inr rfl)) (fun b hb => .inl hb) pw cw (kS hs cs) (kS hc cc)
  (by rw [hBe.cell (p := ⟨W.heap.size, 0, none⟩) (by simp)]; exact (rP na0).trans rfl) (by rw [hcd, hfv]) size.toNat [] 0 [] [] M Wd (.slice none 0 0) n (gr N size.toNat [] 0).length (by simp) (by simp; omega) (by simp) (by omega) (by simp) (hJ _ _ _ _ hj hBd) hvd
  ((DT.val_one (t := LI) rfl).2 ⟨none, 0, rfl, Nat.le_refl _, by simp [maxLen], fun _ => rfl, trivial, fun h => by simp at h⟩) hBd.size
 rw [hWd, hWa, hfv] at hgw
 clear hWd hWa hfv hBd hBe hcd hvd kS na na0 sa sd
 gi_wp2_with (refine ⟨trivial, rfl, ?_⟩; refine (hgw _).mono ?_; clear hgw; rintro e W4 (⟨rfl, M4, j4, z4, b4, m4⟩ | ⟨rfl, hx4⟩))
 ·go_end0
  exact ⟨⟨_, rfl⟩, .inl ⟨M4, j4⟩⟩
 ·go_end0
  exact ⟨⟨_, rfl⟩, .inr hx4⟩
end
def Oy (fv : TV) : Option (Bool × ((t : DT) × List t.den)) :=
 match fv with
 | .fn 71 0 2 f => match f 0, f 1 with
  | .el (.int .i64) size [], .el (.pair (.int .i64) (.pair (.sl (.sl (.int .i64))) .unit)) c [] => some (decide (0 <= size /\ ((List.length c.2.1 : Nat) : Int) * 8 <= 140737488355328), ⟨LI, gr (List.length c.2.1) (Int.toNat size) [] 0⟩)
  | _, _ => none
 | _ => none
theorem asE : IM prog Oy := fun fv t xs h => by
 unfold Oy at h
 split at h
 ·rename_i f
  split at h
  ·rename_i size c hs hc
   ·simp only [Option.some.injEq, Prod.mk.injEq, Sigma.mk.injEq, decide_eq_true_eq] at h
    obtain ⟨hcond, rfl, h⟩ := h
    obtain rfl := eq_of_heq h
    refine ⟨71, 2, f, rfl, fun args w => ?_, fun w G π O lb hlb hcap hG => ?_⟩
    ·have hname : (Tryz.f71.name == "runtime.NumGoroutine") = false := by kernel_rfl
     have hname' : ¬ Tryz.f71.name = "runtime.NumGoroutine" := by simpa using hname
     have hb : Tryz.f71.body.isSome = true := by kernel_rfl
     have hf := func71
     simp [callFunc, hf, hname']
     intro h
     rw [h] at hb
     cases hb
    ·obtain ⟨u0, e0, v0⟩ := hcap 0 (by decide)
     obtain ⟨u1, e1, v1⟩ := hcap 1 (by decide)
     rw [hs] at v0
     rw [hc] at v1
     simp only [VR] at v0 v1
     obtain ⟨b0, o0, L0, l0, _, rfl, g0, c0⟩ := v0
     obtain ⟨b1, o1, L1, l1, _, rfl, g1, c1⟩ := v1
     obtain rfl := Option.some.inj l0
     obtain rfl := Option.some.inj l1
     obtain ⟨x0, d0, _, f0⟩ := c0 0 (by decide)
     obtain ⟨x1, d1, _, f1⟩ := c1 1 (by decide)
     have hx0 : x0 = .int .i64 size := f0
     obtain ⟨pw, cw, hx1, _⟩ : ∃ pw cw, x1 = .slice pw (List.length c.2.1) cw /\ True := by
      have f1' : (DT.sl (.sl (.int .i64))).cell c.2.1 0 w G x1 := f1
      obtain ⟨pw, cw, hx, _⟩ := f1'
      exact ⟨pw, cw, hx, trivial⟩
     subst hx0
     subst hx1
     have hl : lb = #[.pointer (some ⟨b0, o0, none⟩), .pointer (some ⟨b1, o1, none⟩)] := by
      apply Array.ext (by simpa using hlb)
      intro k h1 h2
      have e : lb[k]? = some lb[k] := Array.getElem?_eq_getElem h1
      match k, h2 with
      | 0, _ => rw [e0] at e; exact (Option.some.inj e).symm
      | 1, _ => rw [e1] at e; exact (Option.some.inj e).symm
     rw [hl]
     exact ⟨fun b => b = b0 \/ b = b1, fun b hb => hb.elim (fun h => h ▸ g0) fun h => h ▸ g1, asF (List.length c.2.1) size b0 o0 b1 o1 w _ pw cw hcond.2 hcond.1 (.inl rfl) (.inr rfl) d0 d1⟩
  ·cases h
 ·cases h
end Go.Proofs.YtfopcfnggdonkaaGreatDoor
