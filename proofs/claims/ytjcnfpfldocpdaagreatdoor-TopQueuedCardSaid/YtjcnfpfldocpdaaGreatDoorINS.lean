/-
 slices.Insert at []press.Order: the four roads, walked (turned from the kit's worked text on slices.Insert at []int). slices.Insert at []press.Order as a contract. The closure fits of press.greedy, where the set lies in a row of one's own: by its contract where all is frozen memory.
-/
import Derived.Test.YtjcnfpfldocpdaaGreatDoorQFI
import Derived.Test.YtjcnfpfldocpdaaGreatDoorXS
import Derived.Test.YtjcnfpfldocpdaaGreatDoorSH
import Derived.Test.YtjcnfpfldocpdaaGreatDoorProg
import Derived.Shelf.RegionOpenPlain
import Derived.WalkKit
import Derived.Lib.Walk
import Derived.Lib.SliceRun
import Derived.Lib.JoinLaws
import Derived.Lib.AppendZeros
import Derived.Lib.AppendZerosOnto
import Derived.Lib.Overlaps
import Derived.Laws.Externs
import Derived.Laws.IdiomCopy
import Derived.Laws.NewBlocks
namespace Go.Proofs.YtjcnfpfldocpdaaGreatDoor
open Go.RowKit
set_option linter.unusedVariables false
open Go.RowKit

def sins (x : Int) : List Int → List Int
 | [] => [x]
 | y :: r => cond (decide (x ≤ y)) (x :: y :: r) (y :: sins x r)
def srt : List Int → List Int
 | [] => []
 | x :: r => sins x (srt r)
open Go.Shelf Go.RowKit Go.Lib

section
variable {P : Program}

theorem run_copyK (w : World) (dT sT ty elem : TypeId) (sz : Nat) (b o dLen dCap : Nat) (a : Addr) (sLen sCap : Nat) (cs : List Value)
  (hu : P.underlying dT = some (.slice elem)) (hs : (P.info? elem).map (·.size) = some sz) (hn : cs.length = Nat.min sLen dLen * sz)
  (hsrc : ∀ j v, cs[j]? = some v → w.cell? (a.add j) = some v) (hc : ∀ j, j < cs.length → (w.cell? ⟨b, o + j, none⟩).isSome = true) (hf : ∀ j, j < cs.length → w.frozen? ⟨b, o + j, none⟩ = false) (h1 : ∀ v ∈ cs, v.oneCell' = true) :
  (Builtin.copy_ #[dT, sT] ty #[.slice (some ⟨b, o, none⟩) dLen dCap, .slice (some a) sLen sCap]).run P w = .ok (goInt (Nat.min sLen dLen)) (w.setCells b o cs) := by
 have hl := run_firstCells_some (P := P) w sz (Nat.min sLen dLen) a sLen sCap cs hn hsrc
 have hst := run_storeCells_cells (P := P) b o cs 0 w (by simpa using hc) (by simpa using hf) h1
 cases hq : P.info? elem with
 | none => simp [hq] at hs
 | some i =>
  have hi : i.size = sz := by simpa [hq] using hs
  simp [Builtin.copy_, run_underlying hu, Builtin.lenOf, sizeOf, typeInfo, hq, hi, hl, hst]
theorem wpI_copy_run (w : World) {o : Oper} {a : Act} {K : Act → World → Prop} {Q : Exit → Act → World → Prop} (d s : Operand) (t t' : TypeId)
  (ho : o.op = .call { callee := .builtin .copy, args := #[d, s], argTypes := #[t, t'] }) (v u : Value) (hd : a.eval d = v) (hs : a.eval s = u) {v' : Value} {w' : World}
  (hr : (Builtin.copy_ #[t, t'] o.type #[v, u]).run P w = .ok v' w') (h : K (a.put o.dst v') w') : o.wp P a w K Q := by
 unfold Oper.wp execOp
 simp only [ho, resolve, invoke, builtin, Sem.run_bind, Sem.run_pure, Result.andThen_ok, List.map_toArray, List.map_cons, List.map_nil, hd, hs, hr]
 exact h
theorem wpIList_copy_run (w : World) {ops : Array Oper} {rest : List Oper} {o : Oper} {a : Act} {Q : Exit → Act → World → Prop} (hgd : o.guard = none) (d s : Operand) (t t' : TypeId)
  (ho : o.op = .call { callee := .builtin .copy, args := #[d, s], argTypes := #[t, t'] }) (v u : Value) (hd : a.eval d = v) (hs : a.eval s = u) {v' : Value} {w' : World}
  (hr : (Builtin.copy_ #[t, t'] o.type #[v, u]).run P w = .ok v' w') (h : wpList P ops Q rest (a.put o.dst v') w') : wpList P ops Q (o :: rest) a w :=
 wpList_plain hgd fun _ hK => wpI_copy_run w d s t t' ho v u hd hs hr (hK _ _ h)
theorem stepI_copy_run {ops : Array Oper} {o : Oper} {a : Act} {w : World} {K : Act → World → Prop} {Q : Exit → Act → World → Prop} {E : Prop}
  (hg : o.guard = none) (d x : Operand) (dT sT : TypeId) (hop : o.op = Op.call { callee := Callee.builtin Builtin.copy, args := #[d, x], argTypes := #[dT, sT] })
  (v u : Value) (hd : a.eval d = v) (hx : a.eval x = u) {v' : Value} {w' : World} (hr : (Builtin.copy_ #[dT, sT] o.type #[v, u]).run P w = .ok v' w') (hK : K (a.put o.dst v') w') :
  if Region.wanted o (yielded ops a.tmps) = true then Oper.wp P o a w K Q else E := by
 have hw : Region.wanted o (yielded ops a.tmps) = true := by simp [Region.wanted, hg]
 rw [if_pos hw]
 unfold Oper.wp
 simp [execOp, hop, resolve, invoke, builtin, hd, hx, hr, Result.andThen]
 exact hK
theorem run_overlapsB (w : World) (tS tR e : TypeId) (ht : P.underlying tS = some (.slice e)) (size : Nat) (hz : ∀ w, (Go.sizeOf e).run P w = .ok size w)
  (a b : Addr) (la ca lb cb : Nat) (hne : a.block ≠ b.block) (tA tB : TypeId) (kA kB : Nat)
  (hsa : w.shape? a.block = some (tA, kA)) (hsb : w.shape? b.block = some (tB, kB)) (hkA : kA ≠ 0) (hkB : kB ≠ 0)
  (hfb : w.frozen? b = false) (hfe : w.frozen? { block := b.block, off := kB } = false) :
  (Extern.SlicesOverlaps.overlaps #[tS, tS] #[tR] #[.slice (some a) la ca, .slice (some b) lb cb]).run P w = .ok (.bool false) w := by
 have hnb : (a.block != b.block) = true := by simpa using hne
 have hnb' : (a.block == b.block) = false := by simpa using hne
 change Sem.run P (α := Value) (do
  let some t := (#[tS, tS] : Array TypeId)[0]? | stuck "slices.overlaps: no parameter types"
  let .slice elem ← underlying t | stuck "slices.overlaps: slice type expected"
  let size ← sizeOf elem
  match (some a : Option Addr), (some b : Option Addr) with
  | some a, some b =>
   if la = 0 ∨ lb = 0 ∨ size = 0 then pure (Value.bool false)
   else if a.block != b.block && (← frozen a) && (← frozen b) then unsupported .addressObserved
   else do
    if a.block != b.block then do
     noView a; noView b
     if ← mayBeOne a b then return Value.bool ((← choose (.extern "sameAddr.stringBytes" 2)) == 1)
    pure (Value.bool (a.block == b.block && a.off < b.off + lb * size && b.off < a.off + la * size))
  | _, _ => pure (Value.bool false)) w = _
 by_cases h0 : la = 0 ∨ lb = 0 ∨ size = 0
 ·simp [run_underlying ht, hz, h0]
 ·cases kB with
  | zero => exact absurd rfl hkB
  | succ kB =>
   obtain ⟨kA, rfl⟩ : ∃ k, kA = k + 1 := ⟨kA - 1, by omega⟩
   cases q1 : w.frozen? a <;> cases q2 : w.frozen? { block := a.block, off := kA + 1 } <;>
    (simp [run_underlying ht, hz, h0, hnb, hnb', frozen, noView, viewAt, mayBeOne, stringish, shape, Sem.run, hsa, hsb, hfb, hfe, q1, q2])
theorem isSome_setCellsI (b : Nat) (vs : List Value) (o : Nat) (w : World) (h : ∀ j, j < vs.length → (w.cell? ⟨b, o + j, none⟩).isSome = true) (k : Nat) (hk : (w.cell? ⟨b, k, none⟩).isSome = true) : ((w.setCells b o vs).cell? ⟨b, k, none⟩).isSome = true := by
 by_cases hin : o ≤ k ∧ k < o + vs.length
 ·have := World.cell?_setCells_in b vs o w h (k - o) (by omega)
  rw [show o + (k - o) = k by omega] at this
  rw [this]; rfl
 ·rw [World.cell?_setCells_out b vs o w ⟨b, k, none⟩ (fun _ _ => by show k < o ∨ o + vs.length ≤ k; omega)]
  exact hk
end

theorem tI24 : Tryz.prog.underlying 24 = some (.slice 38) := by kernel_rfl
theorem tI3 : Tryz.prog.underlying 3 = some (.int .i64) := by kernel_rfl
theorem szI38 : (Tryz.prog.info? 38).map (·.size) = some 2 := by kernel_rfl
theorem infI38 : (Tryz.prog.info? 38).map (fun i => (i.zero, i.size, i.bytes)) = some (some (.agg #[.int .i64 0, .int .i64 0]), 2, 16) := by kernel_rfl
theorem zI38 (w : World) : (Go.sizeOf 38).run Tryz.prog w = .ok 2 w := by kernel_rfl
theorem mixedI : Tryz.prog.follows .mixedOrders = true := by kernel_rfl
set_option maxHeartbeats 4000000 in
set_option maxRecDepth 100000 in
theorem ins_shift (b off n c i vb voff vc : Nat) (cs vs : List Value) (w : World) (hi : i < n) (hroom : n + 1 ≤ c) (hc63 : c ≤ 9223372036854775807) (hvb : vb ≠ b)
  (hcl : cs.length = n * 2) (hvl : vs.length = 2)
  (hcs : ∀ j v, cs[j]? = some v → w.cell? ⟨b, off + j, none⟩ = some v) (hsp : ∀ j, j < (n + 1) * 2 → (w.cell? ⟨b, off + j, none⟩).isSome = true) (hfz : ∀ j, j < (n + 1) * 2 → w.frozen? ⟨b, off + j, none⟩ = false)
  (hvs : ∀ j v, vs[j]? = some v → w.cell? ⟨vb, voff + j, none⟩ = some v) (h1c : ∀ v ∈ cs, v.oneCell' = true) (h1v : ∀ v ∈ vs, v.oneCell' = true)
  (tA tB : TypeId) (kA kB : Nat) (hsa : w.shape? vb = some (tA, kA)) (hsb : w.shape? b = some (tB, kB)) (hkA : kA ≠ 0) (hkB : kB ≠ 0) (hfa : ∀ j, w.frozen? ⟨b, j, none⟩ = false) :
  Calls Tryz.prog 86 #[.slice (some ⟨b, off, none⟩) n c, .int .i64 i, .slice (some ⟨vb, voff, none⟩) 1 vc] w fun e w' =>
   e = .returned (.slice (some ⟨b, off, none⟩) (n + 1) c) ∧ w' = (w.drew.setCells b (off + (i + 1) * 2) (cs.drop (i * 2))).setCells b (off + i * 2) vs := by
 have hz2 : ¬ ((i : Int) = (n : Int)) := by omega
 have hov : ∀ lb cb, (callFunc 100 #[.slice (some ⟨vb, voff, none⟩) 1 vc, .slice (some ⟨b, off + (i + 1) * 2, none⟩) lb cb]).run Tryz.prog w = .ok (.value (.bool false)) w := fun lb cb => by
  rw [run_callFunc_extern Tryz.func100 (by kernel_rfl) (by kernel_rfl) (by kernel_rfl) (e := Extern.SlicesOverlaps.overlaps #[24, 24] #[4]) (by kernel_rfl),
   run_overlapsB w 24 4 38 tI24 2 zI38 ⟨vb, voff, none⟩ ⟨b, off + (i + 1) * 2, none⟩ 1 vc lb cb hvb tA tB kA kB hsa hsb hkA hkB (hfa _) (hfa _)]
  rfl
 have hdl : (cs.drop (i * 2)).length = (n - i) * 2 := by rw [List.length_drop, hcl, Nat.sub_mul]
 have mixed := mixedI
 have hw1 : IntKind.i64.wrap ((i : Int) + 1) = (i : Int) + 1 := by rw [IntKind.wrap_i64]; omega
 have hw2 : IntKind.i64.wrap ((n : Int) + 1) = (n : Int) + 1 := by rw [IntKind.wrap_i64]; omega
 have hb1 : (0 : Int) ≤ (i : Int) + 1 := by omega
 have hin : i ≤ n := by omega
 have htn : ((i : Int) + 1).toNat = i + 1 := by omega
 have htm : ((n : Int) + 1).toNat = n + 1 := by omega
 have hb2 : ¬ (c = i + 1) := by omega
 have hb3 : (i : Int) ≤ (n : Int) + 1 := by omega
 have hb4 : ¬ (c = i) := by omega
 have hcp1 : ∀ ty dc sc, (Builtin.copy_ #[24, 24] ty #[.slice (some ⟨b, off + (i + 1) * 2, none⟩) (n - i) dc, .slice (some ⟨b, off + i * 2, none⟩) (n + 1 - i) sc]).run Tryz.prog w.drew = .ok (goInt ((n - i : Nat) : Int)) (w.drew.setCells b (off + (i + 1) * 2) (cs.drop (i * 2))) := fun ty dc sc => by
  have hmin : Nat.min (n + 1 - i) (n - i) = n - i := by simp only [Nat.min_def]; split <;> omega
  have := run_copyK (P := Tryz.prog) w.drew 24 24 ty 38 2 b (off + (i + 1) * 2) (n - i) dc ⟨b, off + i * 2, none⟩ (n + 1 - i) sc (cs.drop (i * 2)) tI24 szI38 (by rw [hdl, hmin])
   (fun j v hj => by rw [Addr.add_lit, Nat.add_assoc]; exact hcs (i * 2 + j) v (by rwa [List.getElem?_drop] at hj))
   (fun j hj => by rw [Nat.add_assoc]; exact hsp _ (by omega)) (fun j hj => by rw [Nat.add_assoc]; exact hfz _ (by omega)) (fun v hv => h1c v (List.mem_of_mem_drop hv))
  rw [hmin] at this; exact this
 obtain ⟨W1, hW1⟩ : ∃ W1, W1 = w.drew.setCells b (off + (i + 1) * 2) (cs.drop (i * 2)) := ⟨_, rfl⟩
 have hsp1 : ∀ k, k < (n + 1) * 2 → (W1.cell? ⟨b, off + k, none⟩).isSome = true := fun k hk => by
  rw [hW1]
  exact isSome_setCellsI b _ _ _ (fun j hj => by rw [Nat.add_assoc]; exact hsp _ (by omega)) _ (hsp k hk)
 have hcp2 : ∀ (W : World), (∀ x, W.cell? x = W1.cell? x) → (∀ x, W.frozen? x = W1.frozen? x) → ∀ ty dc, (Builtin.copy_ #[24, 24] ty #[.slice (some ⟨b, off + i * 2, none⟩) (n + 1 - i) dc, .slice (some ⟨vb, voff, none⟩) 1 vc]).run Tryz.prog W = .ok (goInt 1) (W.setCells b (off + i * 2) vs) := fun W hWc hWf ty dc => by
  have hmin : Nat.min 1 (n + 1 - i) = 1 := by simp only [Nat.min_def]; split <;> omega
  have := run_copyK (P := Tryz.prog) W 24 24 ty 38 2 b (off + i * 2) (n + 1 - i) dc ⟨vb, voff, none⟩ 1 vc vs tI24 szI38 (by rw [hvl, hmin])
   (fun j v hj => by
    rw [Addr.add_lit, hWc, hW1, World.cell?_setCells_out b _ _ _ _ (fun h _ => absurd h hvb)]
    exact hvs j v hj)
   (fun j hj => by rw [hWc, Nat.add_assoc]; exact hsp1 _ (by omega)) (fun j hj => by rw [hWf, hW1, World.frozen?_setCells, Nat.add_assoc]; exact hfz _ (by omega)) h1v
  rw [hmin] at this; exact this
 rw [← hW1] at hcp1
 go_enter Tryz.func86, Tryz.ntmps86
 go_wp2_with (simp only [hov])
 go_region_law_o (refine stepI_copy_run rfl _ _ 24 24 rfl _ _ (by simp [Act.eval, Act.put]) (by simp [Act.eval, Act.put]) (hcp1 _ _ _) ?_)
 go_wp2_with (at_builtin; refine wpIList_copy_run _ rfl _ _ 24 24 rfl _ _ rfl rfl (hcp2 _ (fun _ => rfl) (fun _ => rfl) _ _) ?_)
 go_ret
 first | exact ⟨rfl, rfl⟩ | exact ⟨rfl, by rw [hW1]⟩
theorem wpIList_append_room {P : Program} (w : World) {ops : Array Oper} {rest : List Oper} {o : Oper} {a : Act} {Q : Exit → Act → World → Prop}
  (hg : o.guard = none) (s x : Operand) (t tx : TypeId) (hop : o.op = Op.call { callee := Callee.builtin Builtin.append, args := #[s, x], argTypes := #[t, tx] })
  (e : TypeId) (z : Value) (k bytes : Nat) (ht : P.underlying t = some (.slice e)) (hinfo : (P.info? e).map (fun i => (i.zero, i.size, i.bytes)) = some (some z, k, bytes))
  (b off sLen sCap : Nat) (hs : a.eval s = .slice (some ⟨b, off, none⟩) sLen sCap) (xv : Value) (hx : a.eval x = xv) (n : Nat) (news : List Value) (hsrc : Src P k tx xv n news w)
  (hroom : sLen + n ≤ sCap) (hc : ∀ j, j < news.length → (w.cell? ⟨b, off + sLen * k + j, none⟩).isSome = true) (hf : ∀ j, j < news.length → w.frozen? ⟨b, off + sLen * k + j, none⟩ = false)
  (hK : wpList P ops Q rest (a.put o.dst (.slice (some ⟨b, off, none⟩) (sLen + n) sCap)) (w.setCells b (off + sLen * k) news)) :
  wpList P ops Q (o :: rest) a w := by
 obtain ⟨i, hi, hzz⟩ := Option.map_eq_some_iff.1 hinfo
 simp only [Prod.mk.injEq] at hzz
 obtain ⟨_, hs1, _⟩ := hzz
 subst hs1
 exact wpList_append_room_src w hg s x t tx hop e i ht hi b off sLen sCap hs xv hx n news hsrc hroom hc hf hK
set_option maxHeartbeats 4000000 in
set_option maxRecDepth 100000 in
theorem ins_end_room (b off n c vb voff vc : Nat) (vs : List Value) (w : World) (hroom : n + 1 ≤ c) (hc63 : c ≤ 9223372036854775807)
  (hvl : vs.length = 2) (hsp : ∀ j, j < 2 → (w.cell? ⟨b, off + n * 2 + j, none⟩).isSome = true) (hfz : ∀ j, j < 2 → w.frozen? ⟨b, off + n * 2 + j, none⟩ = false)
  (hvs : ∀ j v, vs[j]? = some v → w.cell? ⟨vb, voff + j, none⟩ = some v) (h1v : ∀ v ∈ vs, v.oneCell' = true) :
  Calls Tryz.prog 86 #[.slice (some ⟨b, off, none⟩) n c, .int .i64 n, .slice (some ⟨vb, voff, none⟩) 1 vc] w fun e w' =>
   e = .returned (.slice (some ⟨b, off, none⟩) (n + 1) c) ∧ w' = w.setCells b (off + n * 2) vs := by
 have mixed := mixedI
 have hsrc : Src Tryz.prog 2 24 (.slice (some ⟨vb, voff, none⟩) 1 vc) 1 vs w := Src.ofSlice w tI24 ⟨vb, voff, none⟩ 1 vc vs (by omega) (fun j u hj => by rw [Addr.add_lit]; exact hvs j u hj) h1v
 go_enter Tryz.func86, Tryz.ntmps86
 go_wp2_with (at_builtin; refine wpIList_append_room _ rfl _ _ 24 24 rfl 38 _ _ _ tI24 infI38 b off n c rfl _ rfl 1 vs hsrc hroom (by rw [hvl]; exact hsp) (by rw [hvl]; exact hfz) ?_)
 go_ret
 exact ⟨rfl, rfl⟩
set_option maxHeartbeats 4000000 in
set_option maxRecDepth 100000 in
theorem ins_end_grow (base : Option Addr) (n c vb voff vc : Nat) (cs vs : List Value) (w : World) (hnc : n ≤ c) (hroom : c < n + 1) (hbig : (n + 1) * 16 ≤ 140737488355328)
  (hcl : cs.length = n * 2) (hvl : vs.length = 2) (hnil : base = none → n = 0)
  (hcs : ∀ a, base = some a → ∀ j v, cs[j]? = some v → w.cell? (a.add j) = some v)
  (hvs : ∀ j v, vs[j]? = some v → w.cell? ⟨vb, voff + j, none⟩ = some v) (h1v : ∀ v ∈ vs, v.oneCell' = true) :
  Calls Tryz.prog 86 #[.slice base n c, .int .i64 n, .slice (some ⟨vb, voff, none⟩) 1 vc] w fun e w' =>
   e = .returned (.slice (some ⟨w.heap.size, 0, none⟩) (n + 1) (grownCap w (n + 1) c 38)) ∧
   w' = w.drew.alloc (.cells ((cs ++ vs).toArray ++ Builtin.zeroCells (Value.agg #[.int .i64 0, .int .i64 0]).cells (grownCap w (n + 1) c 38 - (n + 1))) 38) := by
 have mixed := mixedI
 obtain ⟨i0, hi0, hz0, hzs, hzb⟩ := info_parts infI38
 have hsrc : Src Tryz.prog i0.size 24 (.slice (some ⟨vb, voff, none⟩) 1 vc) 1 vs w := by
  rw [hzs]
  exact Src.ofSlice w tI24 ⟨vb, voff, none⟩ 1 vc vs (by omega) (fun j u hj => by rw [Addr.add_lit]; exact hvs j u hj) h1v
 have hold : (Builtin.firstCells i0.size n (.slice base n c)).run Tryz.prog w.drew = .ok cs.toArray w.drew := by
  rw [hzs]
  cases base with
  | none =>
   have h0 := hnil rfl
   subst h0
   have h00 : cs = [] := List.length_eq_zero_iff.1 (by omega)
   rw [h00]
   exact run_firstCells_none w.drew 2 0 0 c
  | some a => exact run_firstCells_some w.drew 2 n a n c cs (by omega) (fun j v hj => hcs a rfl j v hj)
 have hrun : ∀ ty, (Builtin.append_ #[24, 24] ty #[.slice base n c, .slice (some ⟨vb, voff, none⟩) 1 vc]).run Tryz.prog w = _ := fun ty =>
  run_append_grow_src w 24 24 ty 38 i0 _ tI24 hi0 hz0 base n c cs hold _ 1 vs hsrc hroom (by omega) (by rw [hzb]; exact growslice_fits hroom hbig)
 go_enter Tryz.func86, Tryz.ntmps86
 cases base with
 | none =>
  have h0 := hnil rfl
  subst h0
  go_wp2_with (at_builtin; refine Lib.wpList_append_run _ rfl _ _ _ _ rfl _ _ rfl rfl _ _ (hrun _) ?_)
  go_ret
  exact ⟨rfl, rfl⟩
 | some a =>
  obtain ⟨ab, ao, asp⟩ := a
  go_wp2_with (at_builtin; refine Lib.wpList_append_run _ rfl _ _ _ _ rfl _ _ rfl rfl _ _ (hrun _) ?_)
  all_goals (go_ret; exact ⟨rfl, rfl⟩)
set_option maxHeartbeats 4000000 in
set_option maxRecDepth 100000 in
theorem ins_grow (b off n c i vb voff vc : Nat) (cs vs : List Value) (w : World) (hi : i < n) (hnc : n ≤ c) (hroom : c < n + 1) (hbig : (n + 1) * 16 ≤ 140737488355328)
  (hcl : cs.length = n * 2) (hvl : vs.length = 2)
  (hcs : ∀ j v, cs[j]? = some v → w.cell? ⟨b, off + j, none⟩ = some v)
  (hvs : ∀ j v, vs[j]? = some v → w.cell? ⟨vb, voff + j, none⟩ = some v) (h1c : ∀ v ∈ cs, v.oneCell' = true) (h1v : ∀ v ∈ vs, v.oneCell' = true) :
  Calls Tryz.prog 86 #[.slice (some ⟨b, off, none⟩) n c, .int .i64 i, .slice (some ⟨vb, voff, none⟩) 1 vc] w fun e w' => ∃ ROW : Array Value,
   e = .returned (.slice (some ⟨w.heap.size, 0, none⟩) (n + 1) (grownCap w (n + 1) c 38)) ∧ grownCap w (n + 1) c 38 * 2 ≤ ROW.size ∧ (∀ (j : Nat) (v : Value), (cs.take (i * 2))[j]? = some v → ROW[j]? = some v) ∧
   w' = (((w.alloc (.cells ROW 38)).drew.setCells w.heap.size (i * 2) vs).drew).setCells w.heap.size ((i + 1) * 2) (cs.drop (i * 2)) := by
 have mixed := mixedI
 obtain ⟨i0, hi0, hz0, hzs, hzb⟩ := info_parts infI38
 have hz2 : ¬ ((i : Int) = (n : Int)) := by omega
 have hz3 : (c : Int) < (n : Int) + 1 := by omega
 have hbw : b < w.heap.size := block_lt_of_cell (hcs 0 _ (List.getElem?_eq_getElem (by omega)))
 have hvw : vb < w.heap.size := block_lt_of_cell (hvs 0 _ (List.getElem?_eq_getElem (by omega)))
 have hkk : (n : Int) + 1 - (i : Int) = ((n + 1 - i : Nat) : Int) := by omega
 have hik : i + (n + 1 - i) = n + 1 := by omega
 have hold : (Builtin.firstCells i0.size i (.slice (some ⟨b, off, none⟩) i c)).run Tryz.prog w.drew = .ok (cs.take (i * 2)).toArray w.drew := by
  rw [hzs]
  exact run_firstCells_some w.drew 2 i ⟨b, off, none⟩ i c (cs.take (i * 2)) (by rw [List.length_take]; omega) (fun j v hj => by
   rw [Addr.add_lit]
   rw [List.getElem?_take] at hj
   split at hj
   ·exact hcs j v hj
   ·cases hj)
 have hrz : ∀ ty, (Builtin.append_ #[24, 3] ty #[.slice (some ⟨b, off, none⟩) i c, .int .i64 ((n : Int) + 1 - (i : Int))]).run Tryz.prog w =
   .ok (.slice (some ⟨w.heap.size, 0, none⟩) (n + 1) (grownCap w (n + 1) c 38)) (w.drew.alloc (.cells ((cs.take (i * 2)).toArray ++ Builtin.zeroCells (Value.agg #[.int .i64 0, .int .i64 0]).cells (n + 1 - i) ++ Builtin.zeroCells (Value.agg #[.int .i64 0, .int .i64 0]).cells (grownCap w (n + 1) c 38 - (n + 1))) 38)) := fun ty => by
  have h := Lib.run_append_grow_zeros w 24 3 ty 38 i0 _ .i64 .i64 tI24 tI3 hi0 hz0 (some ⟨b, off, none⟩) i c (cs.take (i * 2)) hold (n + 1 - i) (by omega) (by omega) (by omega) (by omega) (by rw [hzb]; omega) (by rw [hzb, hik]; exact growslice_fits hroom hbig)
  rw [hik] at h
  rw [hkk]
  exact h
 obtain ⟨G, hG⟩ : ∃ G, G = grownCap w (n + 1) c 38 := ⟨_, rfl⟩
 obtain ⟨ROW, hROW⟩ : ∃ ROW : Array Value, ROW = (cs.take (i * 2)).toArray ++ Builtin.zeroCells (Value.agg #[.int .i64 0, .int .i64 0]).cells (n + 1 - i) ++ Builtin.zeroCells (Value.agg #[.int .i64 0, .int .i64 0]).cells (G - (n + 1)) := ⟨_, rfl⟩
 rw [← hG] at hrz ⊢
 rw [← hROW] at hrz
 have hGn : n + 1 ≤ G := by rw [hG]; exact grownCap_ge w _ _ _
 have hRl : G * 2 ≤ ROW.size := by
  rw [hROW]
  simp [Builtin.zeroCells, Value.cells]
  omega
 have hRt : ∀ j v, (cs.take (i * 2))[j]? = some v → ROW[j]? = some v := fun j v hj => by
  have hj' := (List.getElem?_eq_some_iff.1 hj).1
  rw [hROW, Array.append_assoc, Array.getElem?_append_left (by simpa using hj')]
  simpa using hj
 obtain ⟨W1, hW1⟩ : ∃ W1, W1 = w.drew.alloc (.cells ROW 38) := ⟨_, rfl⟩
 rw [← hW1] at hrz
 have hN : ∀ j, j < (n + 1) * 2 → (W1.cell? ⟨w.heap.size, j, none⟩).isSome = true := fun j hj => by
  rw [hW1, World.cell?_alloc_at (w := w.drew) ROW _ w.heap.size j rfl, Array.getElem?_eq_getElem (by omega)]; rfl
 have hNf : ∀ j, W1.frozen? ⟨w.heap.size, j, none⟩ = false := fun j => by rw [hW1]; exact World.frozen?_alloc_at (w := w.drew) ROW _ w.heap.size j rfl
 have hOb : ∀ j v, w.cell? ⟨b, j, none⟩ = some v → W1.cell? ⟨b, j, none⟩ = some v := fun j v h => by rw [hW1, World.cell?_alloc_past (w := w.drew) _ b j hbw]; exact h
 have hOv : ∀ j v, w.cell? ⟨vb, j, none⟩ = some v → W1.cell? ⟨vb, j, none⟩ = some v := fun j v h => by rw [hW1, World.cell?_alloc_past (w := w.drew) _ vb j hvw]; exact h
 have hcpA : ∀ (W : World), (∀ x, W.cell? x = W1.cell? x) → (∀ x, W.frozen? x = W1.frozen? x) → ∀ ty dc, (Builtin.copy_ #[24, 24] ty #[.slice (some ⟨w.heap.size, i * 2, none⟩) (n + 1 - i) dc, .slice (some ⟨vb, voff, none⟩) 1 vc]).run Tryz.prog W = .ok (goInt 1) (W.setCells w.heap.size (i * 2) vs) := fun W hWc hWf ty dc => by
  have hmin : Nat.min 1 (n + 1 - i) = 1 := by simp only [Nat.min_def]; split <;> omega
  have := run_copyK (P := Tryz.prog) W 24 24 ty 38 2 w.heap.size (i * 2) (n + 1 - i) dc ⟨vb, voff, none⟩ 1 vc vs tI24 szI38 (by rw [hvl, hmin])
   (fun j v hj => by rw [Addr.add_lit, hWc]; exact hOv _ v (hvs j v hj))
   (fun j hj => by rw [hWc]; exact hN _ (by omega)) (fun j hj => by rw [hWf]; exact hNf _) h1v
  rw [hmin] at this; exact this
 have hG63 : G ≤ 9223372036854775807 := by
  have := grownCap_le_maxLen w (n + 1) c 38 (by unfold maxLen; omega)
  rw [← hG] at this
  unfold maxLen at this
  omega
 have hGi : ¬ (G = i) := by omega
 have hGim : ¬ (G = i + 1) := by omega
 have hci : ¬ (c = i) := by omega
 have hbN : b ≠ w.heap.size := by omega
 have hdl : (cs.drop (i * 2)).length = (n - i) * 2 := by rw [List.length_drop, hcl, Nat.sub_mul]
 have hcpB : ∀ (W : World), (∀ x, W.cell? x = (W1.setCells w.heap.size (i * 2) vs).cell? x) → (∀ x, W.frozen? x = (W1.setCells w.heap.size (i * 2) vs).frozen? x) → ∀ ty dc sc, (Builtin.copy_ #[24, 24] ty #[.slice (some ⟨w.heap.size, (i + 1) * 2, none⟩) (n - i) dc, .slice (some ⟨b, off + i * 2, none⟩) (n - i) sc]).run Tryz.prog W = .ok (goInt ((n - i : Nat) : Int)) (W.setCells w.heap.size ((i + 1) * 2) (cs.drop (i * 2))) := fun W hWc hWf ty dc sc => by
  have hmin : Nat.min (n - i) (n - i) = n - i := by simp only [Nat.min_def]; split <;> omega
  have := run_copyK (P := Tryz.prog) W 24 24 ty 38 2 w.heap.size ((i + 1) * 2) (n - i) dc ⟨b, off + i * 2, none⟩ (n - i) sc (cs.drop (i * 2)) tI24 szI38 (by rw [hdl, hmin])
   (fun j v hj => by
    rw [Addr.add_lit, hWc, World.cell?_setCells_out _ _ _ _ _ (fun h _ => absurd h hbN), Nat.add_assoc]
    exact hOb _ v (hcs (i * 2 + j) v (by rwa [List.getElem?_drop] at hj)))
   (fun j hj => by rw [hWc]; exact isSome_setCellsI _ _ _ _ (fun t ht => hN _ (by omega)) _ (hN _ (by omega)))
   (fun j hj => by rw [hWf, World.frozen?_setCells]; exact hNf _) (fun v hv => h1c v (List.mem_of_mem_drop hv))
  rw [hmin] at this; exact this
 subst hW1
 have hE1 : ∀ x, ((w.alloc (.cells ROW 38)).drew).cell? x = (w.drew.alloc (.cells ROW 38)).cell? x := fun x => rfl
 have hE2 : ∀ x, ((w.alloc (.cells ROW 38)).drew).frozen? x = (w.drew.alloc (.cells ROW 38)).frozen? x := fun x => rfl
 have hF1 : ∀ x, (((w.alloc (.cells ROW 38)).drew.setCells w.heap.size (i * 2) vs).drew).cell? x = ((w.drew.alloc (.cells ROW 38)).setCells w.heap.size (i * 2) vs).cell? x := fun x => rfl
 have hF2 : ∀ x, (((w.alloc (.cells ROW 38)).drew.setCells w.heap.size (i * 2) vs).drew).frozen? x = ((w.drew.alloc (.cells ROW 38)).setCells w.heap.size (i * 2) vs).frozen? x := fun x => rfl
 have hw1 : IntKind.i64.wrap ((i : Int) + 1) = (i : Int) + 1 := by rw [IntKind.wrap_i64]; omega
 have hw2 : IntKind.i64.wrap ((n : Int) + 1) = (n : Int) + 1 := by rw [IntKind.wrap_i64]; omega
 have hb1 : (0 : Int) ≤ (i : Int) + 1 := by omega
 have hin : i ≤ n := by omega
 have htn : ((i : Int) + 1).toNat = i + 1 := by omega
 have hb3 : (i : Int) ≤ (n : Int) := by omega
 clear hkk hik hold hROW hG
 go_enter Tryz.func86, Tryz.ntmps86
 go_wp2_with (first
  | (at_builtin; refine Lib.wpList_append_run _ rfl _ _ _ _ rfl _ _ rfl rfl _ _ (hrz _) ?_)
  | (at_builtin; refine wpIList_copy_run _ rfl _ _ 24 24 rfl _ _ rfl rfl (hcpA _ hE1 hE2 _ _) ?_)
  | (at_builtin; refine wpIList_copy_run _ rfl _ _ 24 24 rfl _ _ rfl rfl (hcpB _ (fun _ => rfl) (fun _ => rfl) _ _ _) ?_))
 go_region_law_o (refine stepI_copy_run rfl _ _ 24 24 rfl (.slice (some ⟨w.heap.size, (i + 1) * 2, none⟩) (n - i) (G - (i + 1))) (.slice (some ⟨b, off + i * 2, none⟩) (n - i) (c - i)) (by simp [Act.eval, Act.put]) (by simp [Act.eval, Act.put]) (hcpB _ hF1 hF2 3 (G - (i + 1)) (c - i)) ?_)
 go_wp2
 go_ret
 exact ⟨ROW, rfl, hRl, hRt, rfl⟩
open Go.RowKit

abbrev O3 : DT := .pair (.int .i64) (.pair (.int .i64) .unit)
def fl3 : List (Int × Int × Unit) → List Value
 | [] => []
 | x :: r => .int .i64 x.1 :: .int .i64 x.2.1 :: fl3 r
theorem fl3_len : ∀ l, (fl3 l).length = l.length * 2
 | [] => rfl
 | x :: r => by simp only [fl3, List.length_cons, fl3_len r]; omega
theorem fl3_app : ∀ a b, fl3 (a ++ b) = fl3 a ++ fl3 b
 | [], b => rfl
 | x :: r, b => by simp only [List.cons_append, fl3, fl3_app r b]
theorem fl3_take : ∀ (l : List (Int × Int × Unit)) (i : Nat), fl3 (l.take i) = (fl3 l).take (i * 2)
 | [], i => by simp [fl3]
 | x :: r, 0 => by simp [fl3]
 | x :: r, i + 1 => by
  rw [show (i + 1) * 2 = i * 2 + 1 + 1 by omega]
  simp only [List.take_succ_cons, fl3, fl3_take r i]
theorem fl3_drop : ∀ (l : List (Int × Int × Unit)) (i : Nat), fl3 (l.drop i) = (fl3 l).drop (i * 2)
 | [], i => by simp [fl3]
 | x :: r, 0 => by simp [fl3]
 | x :: r, i + 1 => by
  rw [show (i + 1) * 2 = i * 2 + 1 + 1 by omega]
  simp only [List.drop_succ_cons, fl3, fl3_drop r i]
theorem fl3_one : ∀ (l : List (Int × Int × Unit)), ∀ v ∈ fl3 l, v.oneCell' = true
 | [], v, h => by simp [fl3] at h
 | x :: r, v, h => by
  simp only [fl3, List.mem_cons] at h
  rcases h with rfl | rfl | h
  ·rfl
  ·rfl
  ·exact fl3_one r v h
theorem fl3_cell : ∀ (l : List (Int × Int × Unit)) (i c : Nat), i < l.length → c < 2 → ∃ u, (fl3 l)[i * 2 + c]? = some u ∧ ∀ w G, O3.cell (l.getD i O3.dflt) c w G u
 | [], i, c, h, _ => by simp at h
 | x :: r, 0, c, _, hc => by
  match c, hc with
  | 0, _ => exact ⟨.int .i64 x.1, rfl, fun w G => rfl⟩
  | 1, _ => exact ⟨.int .i64 x.2.1, rfl, fun w G => rfl⟩
 | x :: r, i + 1, c, h, hc => by
  obtain ⟨u, h1, h2⟩ := fl3_cell r i c (by simpa using h) hc
  refine ⟨u, ?_, h2⟩
  rw [show (i + 1) * 2 + c = i * 2 + c + 1 + 1 by omega]
  simpa only [fl3, List.getElem?_cons_succ] using h1
theorem O3_cell {x : Int × Int × Unit} {c : Nat} (hc : c < 2) {w w' : World} {G G' : Nat → Prop} {u v : Value} (h1 : O3.cell x c w G u) (h2 : O3.cell x c w' G' v) : u = v := by
 match c, hc with
 | 0, _ => exact (show u = _ from h1).trans (show v = _ from h2).symm
 | 1, _ => exact (show u = _ from h1).trans (show v = _ from h2).symm
theorem fl3_in {l : List (Int × Int × Unit)} {get : Nat → Option Value} (h : ∀ i, i < l.length → ∀ c, c < 2 → ∃ u w G, get (i * 2 + c) = some u ∧ O3.cell (l.getD i O3.dflt) c w G u) : ∀ j v, (fl3 l)[j]? = some v → get j = some v := fun j v hj => by
 have hl := (List.getElem?_eq_some_iff.1 hj).1
 rw [fl3_len] at hl
 obtain ⟨u, w, G, h1, h2⟩ := h (j / 2) (by omega) (j % 2) (by omega)
 obtain ⟨u', h3, h4⟩ := fl3_cell l (j / 2) (j % 2) (by omega) (by omega)
 have e : j / 2 * 2 + j % 2 = j := by omega
 rw [e] at h1 h3
 rw [hj] at h3; obtain rfl := Option.some.inj h3
 rw [h1, O3_cell (by omega) h2 (h4 w G)]
theorem setCells_heap {g : Nat} {e : TypeId} {z : Nat × Nat} : ∀ (vs : List Value) (o : Nat) (w : World) (cur : Array Value), w.heap[g]? = some (.cells cur e z) → ∃ cur', (w.setCells g o vs).heap[g]? = some (.cells cur' e z) ∧ cur'.size = cur.size ∧ (∀ k, k ≠ g → (w.setCells g o vs).heap[k]? = w.heap[k]?) ∧ (w.setCells g o vs).heap.size = w.heap.size ∧ (w.setCells g o vs).os = w.os ∧ (w.setCells g o vs).tape = w.tape ∧ (w.setCells g o vs).output = w.output ∧
  (∀ j, j < o → cur'[j]? = cur[j]?) ∧ (∀ j v, vs[j]? = some v → o + j < cur.size → cur'[o + j]? = some v) ∧ ∀ j, o + vs.length ≤ j → cur'[j]? = cur[j]?
 | [], o, w, cur, h => ⟨cur, h, rfl, fun _ _ => rfl, rfl, rfl, rfl, rfl, fun _ _ => rfl, fun j v hj => by simp at hj, fun _ _ => rfl⟩
 | v :: r, o, w, cur, h => by
  have hs : w.setCell ⟨g, o, none⟩ v = w.setRow g (cur.setIfInBounds o v) := setCell_eq_setRow w g o cur e z v h
  have hh := setRow_heap w g cur (cur.setIfInBounds o v) e z h
  obtain ⟨cur', a1, a2, a3, a4, a5, a6, a7, a8, a9, a10⟩ := setCells_heap r (o + 1) (w.setCell ⟨g, o, none⟩ v) (cur.setIfInBounds o v) (by rw [hs]; exact hh)
  refine ⟨cur', a1, by rw [a2]; simp, fun k hk => (a3 k hk).trans (by rw [hs]; exact setRow_other w g k _ hk), a4.trans (by rw [hs]; simp), a5, a6, a7, fun j hj => ?_, fun j u hj hlt => ?_, fun j hj => ?_⟩
  ·rw [a8 j (by omega)]; simp [Array.getElem?_setIfInBounds_ne (show o ≠ j by omega)]
  ·cases j with
   | zero =>
    obtain rfl := Option.some.inj hj
    rw [Nat.add_zero] at hlt ⊢
    rw [a8 o (by omega)]; simp [hlt]
   | succ j =>
    rw [show o + (j + 1) = o + 1 + j by omega]
    exact a9 j u (by simpa using hj) (by simp; omega)
  ·rw [List.length_cons] at hj
   rw [a10 j (by omega)]; simp [Array.getElem?_setIfInBounds_ne (show o ≠ j by omega)]
theorem tlook1 {o : TO} {id : Nat} {o1 : TO} (h : tlook [(9000, o)] id = some o1) : id = 9000 ∧ o1 = o := by
 simp only [tlook] at h
 split at h
 ·rename_i e; exact ⟨e, (Option.some.inj h).symm⟩
 ·cases h
theorem ins_post {F : Nat → Prop} {π : Nat → Pl} {w w' : World} {l l' : List (Int × Int × Unit)} {e : Ending} {b q cap : Nat} {cur : Array Value} {T : TypeId} (hfr : Frame F w π [(9000, .row O3 l)])
  (he : e = .returned (.slice (some ⟨b, q, none⟩) l'.length cap)) (hblk0 : w'.heap[b]? = some (.cells cur T (0, 0))) (hlen : l'.length ≤ cap) (hcap : cap ≤ maxLen) (hfit : q + cap * 2 ≤ cur.size) (hcells : ∀ (j : Nat) v, (fl3 l')[j]? = some v → cur[q + j]? = some v)
  (hown : Own π (tlook [(9000, .row O3 l)]) 9000 b ∨ w.heap.size ≤ b) (hkeep : ∀ k, k < w.heap.size → (∀ id, ¬ Own π (tlook [(9000, .row O3 l)]) id k) → w'.heap[k]? = w.heap[k]?) (hsz : w.heap.size ≤ w'.heap.size) (hos : w'.os = w.os ∧ w'.tape = w.tape ∧ w'.output = w.output) :
  ∃ r v O' π', e = .returned v ∧ (r = .row 1500 ∧ O' = [(1500, .row O3 l'), (9000, .dead)]) ∧ Frame (fun b => F b ∨ w.heap.size ≤ b) w' π' O' ∧ VR w' (Gz (fun b => F b ∨ w.heap.size ≤ b) w' π' (tlook O')) π' (tlook O') r v ∧
   (∀ id o, tlook [(9000, .row O3 l)] id = some o → ∃ o', tlook O' id = some o' ∧ (o'.live = true → π' id = π id ∧ Shp o o')) ∧ (∀ id g, Own π' (tlook O') id g → (∃ j, Own π (tlook [(9000, .row O3 l)]) j g) ∨ w.heap.size ≤ g) ∧ Kept ⟨w, fun b => ∀ id, ¬ Own π (tlook [(9000, .row O3 l)]) id b, fun _ => none, none, [], []⟩ w' := by
 have hblk : Blk w' b cur T := .of hblk0
 let π' : Nat → Pl := fun id => if id = 1500 then ⟨some b, q, cap, nos⟩ else π id
 have hlk : ∀ id o, tlook [(1500, TO.row O3 l'), (9000, .dead)] id = some o → (id = 1500 ∧ o = .row O3 l') ∨ (id = 9000 ∧ o = .dead) := fun id o h => by
  simp only [tlook] at h
  split at h
  ·rename_i e1; exact .inl ⟨e1, (Option.some.inj h).symm⟩
  ·split at h
   ·rename_i e1; exact .inr ⟨e1, (Option.some.inj h).symm⟩
   ·cases h
 have hO : ∀ id g, Own π' (tlook [(1500, TO.row O3 l'), (9000, .dead)]) id g → id = 1500 ∧ g = b := fun id g ⟨o, h2, h3⟩ => by
  rcases hlk id o h2 with ⟨rfl, rfl⟩ | ⟨rfl, rfl⟩
  ·have h1 := h3.g rfl
   simp only [π', if_true] at h1; exact ⟨rfl, (Option.some.inj h1).symm⟩
  ·exact (h3.not rfl).elim
 refine ⟨_, _, _, π', he, ⟨rfl, rfl⟩, ⟨fun id o ho => ?_, fun i j g hi hj => (hO i g hi).1.trans (hO j g hj).1.symm, fun id g hid => ?_⟩, ?_, fun id o ho => ?_, fun id g hid => ?_, ⟨hos.1, hos.2.1, hos.2.2, hsz, fun k hk _ => ?_, fun b hb => by cases hb⟩⟩
 ·rcases hlk id o ho with ⟨rfl, rfl⟩ | ⟨rfl, rfl⟩
  ·refine .inr ⟨b, cur, T, by simp [π'], hblk, by simpa [π'] using hlen, by simpa [π'] using hcap, by simpa [π', DT.size] using hfit, fun i hi c hc => ?_⟩
   obtain ⟨u, h1, h2⟩ := fl3_cell l' i c hi (by simpa [DT.size] using hc)
   refine ⟨u, ?_, fl3_one l' u (List.mem_of_getElem? h1), h2 _ _⟩
   have := hcells _ _ h1
   simpa [π', DT.size, Nat.add_assoc] using this
  ·trivial
 ·obtain ⟨rfl, rfl⟩ := hO id g hid
  refine ⟨?_, hblk.lt⟩
  rcases hown with h | h
  ·exact .inl (hfr.new 9000 g h).1
  ·exact .inr h
 ·simp [VR, tlook, π', Pl.hdr]
 ·obtain ⟨rfl, rfl⟩ := tlook1 ho
  exact ⟨.dead, by simp [tlook], fun h => by cases h⟩
 ·obtain ⟨rfl, rfl⟩ := hO id g hid
  exact hown.imp (fun h => ⟨9000, h⟩) id
 ·rcases hk with hk | hk | hk
  ·rw [Cx.blk, if_neg (by simp)]; exact hkeep k hk.2 hk.1
  ·cases hk
  ·cases hk
theorem blkZero {w : World} {g : Nat} {cur : Array Value} {e : TypeId} (h : Blk w g cur e) : w.heap[g]? = some (.cells cur e (0, 0)) := by
 obtain ⟨z, h1, h2⟩ := h
 rcases h2 with rfl | h2
 ·exact h1
 ·exact absurd h2.1 (by decide)
def A86 (i : Int) (v l : List (Int × Int × Unit)) : Option (List (Int × Int × Unit)) :=
 if 0 ≤ i ∧ i ≤ l.length ∧ v.length = 1 ∧ (l.length + 1) * 16 ≤ 140737488355328 then some (l.take i.toNat ++ v ++ l.drop i.toNat) else none
theorem enters86 (xs : Array Value) (w : World) : (callFunc 86 xs).run Tryz.prog w = .ok (.enter 86 xs) w := enters_of Tryz.func86 (by kernel_rfl) rfl xs w
theorem alloc_new (w : World) (o : Obj) : (w.alloc o).heap[w.heap.size]? = some o := by
 show (w.heap.push o)[w.heap.size]? = some o
 simp
theorem insert_spec {i : Int} {v l : List (Int × Int × Unit)} (h0 : 0 ≤ i) (hil : i ≤ l.length) (hv1 : v.length = 1) (hbig : (l.length + 1) * 16 ≤ 140737488355328) :
  HSpec Tryz.prog 86 [.row 9000, .dv (.int .i64) i, .dv (.sl O3) v] [(9000, .row O3 l)] fun r O => r = .row 1500 ∧ O = [(1500, .row O3 (l.take i.toNat ++ v ++ l.drop i.toNat)), (9000, .dead)] := by
 refine ⟨enters86, fun w F π vs hvl hF hfr hv _ => ?_⟩
 obtain ⟨r, iv, vv, rfl⟩ : ∃ r iv vv, vs = [r, iv, vv] := by
  match vs, hvl with
  | [a, b, c], _ => exact ⟨a, b, c, rfl⟩
 have hr : r = (π 9000).hdr l.length := by simpa [VR, tlook] using hv 0 _ _ rfl rfl
 have hiv : iv = .int .i64 i := (DT.val_one (t := .int .i64) rfl).1 (hv 1 _ _ rfl rfl)
 have hvv : (DT.sl O3).cell v 0 w (Gz F w π (tlook [(9000, .row O3 l)])) vv := (DT.val_one (t := .sl O3) rfl).1 (hv 2 _ _ rfl rfl)
 obtain ⟨p, vc, rfl, _, _, _, _, hvc⟩ := hvv
 rw [hv1] at hvc
 obtain ⟨vb, voff, rfl, hGv, hvcell⟩ := hvc (by omega)
 rw [hv1]
 subst hiv
 obtain ⟨n, rfl⟩ : ∃ n : Nat, i = n := ⟨i.toNat, by omega⟩
 have hin : n ≤ l.length := by omega
 rw [Int.toNat_natCast]
 -- the elements to be put in
 have hvs : ∀ (j : Nat) u, (fl3 v)[j]? = some u → w.cell? ⟨vb, voff + j, none⟩ = some u := fl3_in (get := fun j => w.cell? ⟨vb, voff + j, none⟩) fun i hi c hc => by
  obtain ⟨u, a1, a2, a3⟩ := hvcell i (by omega) c hc
  refine ⟨u, w, _, ?_, a3⟩
  show w.cell? ⟨vb, voff + (i * 2 + c), none⟩ = some u
  rw [← a1, show voff + (i * 2 + c) = voff + i * O3.size + c by show _ = voff + i * 2 + c; omega]
 have hvl2 : (fl3 v).length = 2 := by rw [fl3_len, hv1]
 have hlen' : (l.take n ++ v ++ l.drop n).length = l.length + 1 := by simp; omega
 have hflat : fl3 (l.take n ++ v ++ l.drop n) = (fl3 l).take (n * 2) ++ fl3 v ++ (fl3 l).drop (n * 2) := by rw [fl3_app, fl3_app, fl3_take, fl3_drop]
 have hmax : l.length + 1 ≤ maxLen := by unfold maxLen; omega
 rcases hfr.obj 9000 (.row O3 l) (by simp [tlook]) with ⟨h1, h2⟩ | ⟨g, cur, T, h1, h2b, h3, h4, h5, h6⟩
 ·-- nil
  subst h2
  obtain rfl : n = 0 := by simpa using hin
  have hr2 : r = .slice none 0 0 := by rw [hr]; simp [Pl.hdr, h1]
  subst hr2
  refine (ins_end_grow none 0 0 vb voff vc [] (fl3 v) w (Nat.le_refl _) (by omega) (by simp) rfl hvl2 (fun _ => rfl) (fun a ha => by cases ha) hvs (fl3_one v)).mono fun e w' ⟨he, hw⟩ => ?_
  have hnew : w'.heap[w.heap.size]? = some (.cells (([] ++ fl3 v).toArray ++ Builtin.zeroCells (Value.agg #[.int .i64 0, .int .i64 0]).cells (grownCap w (0 + 1) 0 38 - (0 + 1))) 38 (0, 0)) := by
   rw [hw]; exact alloc_new w.drew _
  have hg1 := grownCap_ge w (0 + 1) 0 38
  refine ins_post (l' := [].take 0 ++ v ++ [].drop 0) hfr (b := w.heap.size) (q := 0) (cap := grownCap w (0 + 1) 0 38) (by rw [he]; simp [hv1]) hnew (by simpa [hv1] using hg1) (grownCap_le_maxLen w _ _ _ hmax) ?_ ?_ (.inr (Nat.le_refl _)) (fun k hk _ => by rw [hw]; exact Below.heap_alloc w.drew _ k hk) (by rw [hw]; simp) ⟨by rw [hw]; rfl, by rw [hw]; rfl, by rw [hw]; rfl⟩
  ·simp [Builtin.zeroCells, Value.cells, hvl2]; omega
  ·intro j u hj
   simp only [List.take_nil, List.drop_nil, List.nil_append, List.append_nil, Nat.zero_add] at hj ⊢
   have := (List.getElem?_eq_some_iff.1 hj).1
   rw [Array.getElem?_append_left (by simpa using this)]
   simpa using hj
 ·-- a row
  have h2 := blkZero h2b
  have hr2 : r = .slice (some ⟨g, (π 9000).q, none⟩) l.length (π 9000).cap := by rw [hr]; simp [Pl.hdr, h1]
  subst hr2
  have hsz2 : O3.size = 2 := rfl
  rw [hsz2] at h5
  have hgl : g < w.heap.size := (Array.getElem?_eq_some_iff.1 h2).1
  have hown : Own π (tlook [(9000, .row O3 l)]) 9000 g := .of h1 (o := .row O3 l) (by simp [tlook]) rfl
  have hcs : ∀ (j : Nat) u, (fl3 l)[j]? = some u → cur[(π 9000).q + j]? = some u := fl3_in (get := fun j => cur[(π 9000).q + j]?) fun i hi c hc => by
   obtain ⟨u, a1, a2, a3⟩ := h6 i hi c hc
   refine ⟨u, w, _, ?_, a3⟩
   show cur[(π 9000).q + (i * 2 + c)]? = some u
   rw [← a1]; congr 1; show _ = (π 9000).q + i * 2 + c; omega
  have hcsw : ∀ (j : Nat) u, (fl3 l)[j]? = some u → w.cell? ⟨g, (π 9000).q + j, none⟩ = some u := fun j u hj => by rw [cell_at h2b]; exact hcs j u hj
  have hsp : ∀ j, j < (π 9000).cap * 2 → (w.cell? ⟨g, (π 9000).q + j, none⟩).isSome = true := fun j hj => by
   rw [cell_at h2b, Array.getElem?_eq_getElem (by omega)]; rfl
  have hfz : ∀ j, w.frozen? ⟨g, j, none⟩ = false := fun j => by simp [World.frozen?, h2]
  have hne : vb ≠ g := fun e => hGv.2.2 9000 (e ▸ hown)
  have hkeepg : ∀ k, (∀ id, ¬ Own π (tlook [(9000, .row O3 l)]) id k) → k ≠ g := fun k hk e => hk 9000 (e ▸ hown)
  by_cases hroom : l.length + 1 ≤ (π 9000).cap
  ·by_cases hend : n = l.length
   ·subst hend
    refine (ins_end_room g (π 9000).q l.length (π 9000).cap vb voff vc (fl3 v) w hroom (by unfold maxLen at h4; omega) hvl2 (fun j hj => by rw [Nat.add_assoc]; exact hsp _ (by omega)) (fun j hj => hfz _) hvs (fl3_one v)).mono fun e w' ⟨he, hw⟩ => ?_
    obtain ⟨cur', a1, a2, a3, a4, a5, a6, a7, a8, a9, a10⟩ := setCells_heap (fl3 v) ((π 9000).q + l.length * 2) w cur h2
    rw [← hw] at a1 a3 a4 a5 a6 a7
    refine ins_post hfr (by rw [he, hlen']) a1 (by omega) h4 (by omega) ?_ (.inl hown) (fun k hk hno => a3 k (hkeepg k hno)) (by omega) ⟨a5, a6, a7⟩
    intro j u hj
    rw [hflat, List.take_of_length_le (by rw [fl3_len]; omega), List.drop_of_length_le (by rw [fl3_len]; omega), List.append_nil] at hj
    by_cases hjl : j < l.length * 2
    ·rw [List.getElem?_append_left (by rw [fl3_len]; exact hjl)] at hj
     rw [a8 _ (by omega)]; exact hcs j u hj
    ·rw [List.getElem?_append_right (by rw [fl3_len]; omega), fl3_len] at hj
     have hj2 := (List.getElem?_eq_some_iff.1 hj).1
     have := a9 (j - l.length * 2) u hj (by omega)
     rw [← this]; congr 1; omega
   ·have hlt : n < l.length := by omega
    obtain ⟨ob, hob⟩ : ∃ ob, w.heap[vb]? = some ob := ⟨_, Array.getElem?_eq_getElem hGv.2.1⟩
    obtain ⟨cA, tA, zA, hA, hkA⟩ : ∃ cA tA zA, w.heap[vb]? = some (.cells cA tA zA) ∧ cA.size ≠ 0 := by
     obtain ⟨u, q1⟩ : ∃ u, w.cell? ⟨vb, voff + 0, none⟩ = some u := by
      obtain ⟨u, a1, _⟩ := hvcell 0 (by omega) 0 (by show 0 < 2; omega)
      exact ⟨u, by simpa using a1⟩
     simp only [World.cell?, hob] at q1
     cases ob with
     | cells c t z =>
      refine ⟨c, t, z, hob, fun q => ?_⟩
      have : c = #[] := Array.eq_empty_of_size_eq_zero q
      subst this
      simp at q1
     | _ => simp at q1
    refine (ins_shift g (π 9000).q l.length (π 9000).cap n vb voff vc (fl3 l) (fl3 v) w hlt hroom (by unfold maxLen at h4; omega) hne (fl3_len l) hvl2 hcsw (fun j hj => hsp j (by omega)) (fun j _ => hfz _) hvs (fl3_one l) (fl3_one v)
     tA T cA.size cur.size (by simp [World.shape?, hA]) (by simp [World.shape?, h2]) hkA (by omega) (fun j => hfz j)).mono fun e w' ⟨he, hw⟩ => ?_
    obtain ⟨c1, a1, a2, a3, a4, a5, a6, a7, a8, a9, a10⟩ := setCells_heap ((fl3 l).drop (n * 2)) ((π 9000).q + (n + 1) * 2) w.drew cur h2
    obtain ⟨c2, b1, b2, b3, b4, b5, b6, b7, b8, b9, b10⟩ := setCells_heap (fl3 v) ((π 9000).q + n * 2) _ c1 a1
    rw [← hw] at b1 b3 b4 b5 b6 b7
    refine ins_post hfr (by rw [he, hlen']) b1 (by omega) h4 (by omega) ?_ (.inl hown) (fun k hk hno => (b3 k (hkeepg k hno)).trans (a3 k (hkeepg k hno))) (by rw [b4, a4]; exact Nat.le_refl _) ⟨b5.trans a5, b6.trans a6, b7.trans a7⟩
    intro j u hj
    rw [hflat, List.append_assoc] at hj
    by_cases hj1 : j < n * 2
    ·rw [List.getElem?_append_left (by rw [List.length_take, fl3_len]; omega), List.getElem?_take_of_lt hj1] at hj
     rw [b8 _ (by omega), a8 _ (by omega)]; exact hcs j u hj
    ·have hlt2 : ((fl3 l).take (n * 2)).length = n * 2 := by rw [List.length_take, fl3_len]; omega
     rw [List.getElem?_append_right (by omega), hlt2] at hj
     by_cases hj2 : j < (n + 1) * 2
     ·rw [List.getElem?_append_left (by omega)] at hj
      have := b9 (j - n * 2) u hj (by omega)
      rw [← this]; congr 1; omega
     ·rw [List.getElem?_append_right (by omega), hvl2] at hj
      have hj3 := (List.getElem?_eq_some_iff.1 hj).1
      rw [List.length_drop, fl3_len] at hj3
      have h9 := a9 (j - n * 2 - 2) u hj (by omega)
      rw [b10 _ (by omega), ← h9]; congr 1; omega
  ·by_cases hend : n = l.length
   ·subst hend
    refine (ins_end_grow (some ⟨g, (π 9000).q, none⟩) l.length (π 9000).cap vb voff vc (fl3 l) (fl3 v) w h3 (by omega) hbig (fl3_len l) hvl2 (fun h => by cases h) (fun a ha j u hj => by
     obtain rfl := Option.some.inj ha
     rw [Addr.add_lit]; exact hcsw j u hj) hvs (fl3_one v)).mono fun e w' ⟨he, hw⟩ => ?_
    have hnew : w'.heap[w.heap.size]? = some (.cells ((fl3 l ++ fl3 v).toArray ++ Builtin.zeroCells (Value.agg #[.int .i64 0, .int .i64 0]).cells (grownCap w (l.length + 1) (π 9000).cap 38 - (l.length + 1))) 38 (0, 0)) := by
     rw [hw]; exact alloc_new w.drew _
    have hg1 := grownCap_ge w (l.length + 1) (π 9000).cap 38
    refine ins_post hfr (b := w.heap.size) (q := 0) (by rw [he, hlen']) hnew (by rw [hlen']; exact hg1) (grownCap_le_maxLen w _ _ _ hmax) ?_ ?_ (.inr (Nat.le_refl _)) (fun k hk _ => by rw [hw]; exact Below.heap_alloc w.drew _ k hk) (by rw [hw]; simp) ⟨by rw [hw]; rfl, by rw [hw]; rfl, by rw [hw]; rfl⟩
    ·simp [Builtin.zeroCells, Value.cells, hvl2, fl3_len]; omega
    ·intro j u hj
     rw [hflat, List.take_of_length_le (by rw [fl3_len]; omega), List.drop_of_length_le (by rw [fl3_len]; omega), List.append_nil] at hj
     have := (List.getElem?_eq_some_iff.1 hj).1
     rw [Nat.zero_add, Array.getElem?_append_left (by simpa using this)]
     simpa using hj
   ·have hlt : n < l.length := by omega
    refine (ins_grow g (π 9000).q l.length (π 9000).cap n vb voff vc (fl3 l) (fl3 v) w hlt h3 (by omega) hbig (fl3_len l) hvl2 hcsw hvs (fl3_one l) (fl3_one v)).mono fun e w' ⟨ROW, he, hR1, hR2, hw⟩ => ?_
    have hg1 := grownCap_ge w (l.length + 1) (π 9000).cap 38
    have hnew : ((w.alloc (.cells ROW 38)).drew).heap[w.heap.size]? = some (.cells ROW 38 (0, 0)) := alloc_new w _
    obtain ⟨c1, a1, a2, a3, a4, a5, a6, a7, a8, a9, a10⟩ := setCells_heap (fl3 v) (n * 2) _ ROW hnew
    obtain ⟨c2, b1, b2, b3, b4, b5, b6, b7, b8, b9, b10⟩ := setCells_heap (g := w.heap.size) ((fl3 l).drop (n * 2)) ((n + 1) * 2) ((((w.alloc (.cells ROW 38)).drew.setCells w.heap.size (n * 2) (fl3 v)).drew)) c1 a1
    rw [← hw] at b1 b3 b4 b5 b6 b7
    have hsz1 : ((w.alloc (.cells ROW 38)).drew).heap.size = w.heap.size + 1 := by show (w.heap.push _).size = _; simp
    refine ins_post hfr (b := w.heap.size) (q := 0) (by rw [he, hlen']) b1 (by rw [hlen']; exact hg1) (grownCap_le_maxLen w _ _ _ hmax) (by omega) ?_ (.inr (Nat.le_refl _)) (fun k hk _ => (b3 k (by omega)).trans ((a3 k (by omega)).trans (Below.heap_alloc w _ k hk))) (by rw [b4]; show w.heap.size ≤ _; rw [show ((((w.alloc (.cells ROW 38)).drew.setCells w.heap.size (n * 2) (fl3 v)).drew)).heap.size = w.heap.size + 1 from a4.trans hsz1]; omega) ⟨b5.trans a5, b6.trans a6, b7.trans a7⟩
    intro j u hj
    rw [hflat, List.append_assoc] at hj
    rw [Nat.zero_add]
    have hlt2 : ((fl3 l).take (n * 2)).length = n * 2 := by rw [List.length_take, fl3_len]; omega
    by_cases hj1 : j < n * 2
    ·rw [List.getElem?_append_left (by omega)] at hj
     rw [b8 _ (by omega), a8 _ (by omega)]; exact hR2 j u hj
    ·rw [List.getElem?_append_right (by omega), hlt2] at hj
     by_cases hj2 : j < (n + 1) * 2
     ·rw [List.getElem?_append_left (by omega)] at hj
      have := a9 (j - n * 2) u hj (by omega)
      rw [b8 _ (by omega), ← this]; congr 1; omega
     ·rw [List.getElem?_append_right (by omega), hvl2] at hj
      have hj3 := (List.getElem?_eq_some_iff.1 hj).1
      rw [List.length_drop, fl3_len] at hj3
      have h9 := b9 (j - n * 2 - 2) u hj (by omega)
      rw [← h9]; congr 1; omega
theorem ok86 : FnOk Tryz.prog 86 (F86c A86) := by
 intro args Of x hx
 simp only [F86c] at hx
 split at hx
 ·rename_i i v l
  simp only [A86] at hx
  split at hx
  ·rename_i h
   obtain rfl := Option.some.inj hx
   exact insert_spec h.1 h.2.1 h.2.2.1 h.2.2.2
  ·cases hx
 ·cases hx
open Go.RowKit

end Go.Proofs.YtjcnfpfldocpdaaGreatDoor
