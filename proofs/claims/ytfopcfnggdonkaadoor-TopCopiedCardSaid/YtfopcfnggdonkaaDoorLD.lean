/-
 What the program lays in the table count, as the logic wants it; the shell of a law whose table is tied.
-/
import Derived.Test.YtfopcfnggdonkaaDoorEN
import Derived.Test.YtfopcfnggdonkaaDoorTie
import Derived.Test.YtfopcfnggdonkaaDoorCards
import Derived.SevenTiedAt
import Derived.LaidHandle
import Derived.MakeChecks
import Derived.Lib.LaidU8
import Derived.ChangeSlices
namespace Go.Proofs.YtfopcfnggdonkaaDoor
open Go.RowKit Go.ChangeShapes Go.WideShapes Go.ChangeAt
set_option linter.unusedVariables false

abbrev laidL : List (String × DataW Unit) := [("tusche/mark.count", Rows.laid_tusche_mark_count)]
def litN : DataW Unit → Int
 | .lit (.int _ n) => n
 | _ => 0
theorem litN_lits (k : IntKind) (zs : List Int) : (lits (H := Unit) k zs).map litN = zs := by
 unfold lits
 rw [List.map_map]
 exact (List.map_congr_left fun z _ => rfl).trans (List.map_id zs)
theorem add_spot {b o : Nat} {sp : Option Nat} (h : ((⟨b, o, sp⟩ : Addr).add 0).spot = none) : sp = none := by
 simpa [Addr.add] using h
theorem add_none (b o i : Nat) : (⟨b, o, none⟩ : Addr).add i = ⟨b, o + i, none⟩ := by
 unfold Addr.add
 split <;> simp_all
set_option maxRecDepth 100000 in
theorem glb_of_laid {w : World} (h : laidMetH Tryd.prog laidL w) : GlbOk w (fun b => b < w.heap.size) := by
 have h1 : laidMet Tryd.prog laidL w := by rw [Go.MakeChecks.laidMetH_plain _ _ _ (by rfl)] at h; exact h
 obtain ⟨g, t, cs, fuel, p, e1, e2, e3, e4⟩ := Go.Lib.laidMet.reads h1 (n := "tusche/mark.count") (d := Rows.laid_tusche_mark_count) (List.mem_singleton.2 rfl)
 have eg : Tryd.prog.globalNamed "tusche/mark.count" = some 0 := by kernel_rfl
 rw [eg] at e1; obtain rfl := Option.some.inj e1
 have et : (Tryd.prog.globals[0]?).map (·.type) = some 27 := by kernel_rfl
 rw [et] at e2; obtain rfl := Option.some.inj e2
 rcases open_ints Tryd.underlying27 Tryd.underlying3 (by kernel_rfl) e4 with ⟨_, hx⟩ | ⟨a, len, cap, zs, hcs, hb, hl, hm, hz, hx, hcell, hwf⟩
 ·have := (Prod.mk.inj hx).1
  unfold Rows.laid_tusche_mark_count at this
  cases this
 have hx1 := (Prod.mk.inj hx).1
 unfold Rows.laid_tusche_mark_count at hx1
 injection hx1 with q1 q2
 have z1 : [0, 1, 1, 2, 1, 2, 2, 3, 1, 2, 2, 3, 2, 3, 3, 4] = zs.take len := by
  have := congrArg (List.map litN) q1
  rw [litN_lits] at this
  exact this
 have z2 : ([] : List Int) = zs.drop len := by
  have := congrArg (List.map litN) q2
  rw [litN_lits] at this
  exact this
 have hzl : zs.length ≤ len := by
  have := congrArg List.length z2
  simp only [List.length_nil, List.length_drop] at this; omega
 have hzs : zs = [0, 1, 1, 2, 1, 2, 2, 3, 1, 2, 2, 3, 2, 3, 3, 4] := by
  rw [z1, List.take_of_length_le hzl]
 simp only [if_true] at hz
 have hlen : len = 16 := by
  have : zs.length = 16 := by rw [hzs]; rfl
  omega
 obtain ⟨b, o, sp⟩ := a
 have hc0 := hcell 0 (by rw [hzs]; decide)
 obtain ⟨s1, s2⟩ := spot_none hc0
 rw [block_add] at s2
 obtain rfl := add_spot s1
 have hl16 : 16 ≤ cap := hlen ▸ hl
 have hcs' : cs = #[.slice (some ⟨b, o, none⟩) len cap] := by apply Array.ext'; simpa using hcs
 subst hcs'
 have hv := World.var?_cell eg e3 0
 have h0 : w.heap.size ≠ 0 := fun e => by
  have := (spot_none (show w.cell? ⟨0, 0, none⟩ = some _ from by simpa using hv)).2
  simp only at this; omega
 intro g t x hg
 match g, hg with
 | 0, hg =>
  have hg' : (⟨.sl (.int .i64), ([0, 1, 1, 2, 1, 2, 2, 3, 1, 2, 2, 3, 2, 3, 3, 4] : List Int)⟩ : (t : DT) × t.den) = ⟨t, x⟩ := Option.some.inj hg
  obtain ⟨rfl, hx⟩ := Sigma.mk.inj hg'
  obtain rfl := eq_of_heq hx
  refine ⟨0, 0, _, DT.at_nil _, DT.inb_nil _, rfl, by show 0 < w.heap.size; omega, fun c hc => ?_⟩
  have hc' : c = 0 := by
   have : c < 1 := hc
   omega
  subst hc'
  refine ⟨.slice (some ⟨b, o, none⟩) len cap, by simpa using hv, rfl, some ⟨b, o, none⟩, cap, by rw [hlen]; rfl, hl16, hm, (fun hn => by cases hn), trivial, fun _ => ⟨b, o, rfl, s2, fun i hi c hc => ?_⟩⟩
  have hc'' : c = 0 := by
   have : c < 1 := hc
   omega
  subst hc''
  have hi' : i < zs.length := by rw [hzs]; exact hi
  refine ⟨.int .i64 (zs.getD i 0), ?_, rfl, ?_⟩
  ·have := hcell i hi'
   rw [add_none] at this
   rw [← this]
   show w.cell? ⟨b, o + i * 1 + 0, none⟩ = _
   rw [Nat.mul_one, Nat.add_zero]
  ·show Value.int .i64 (zs.getD i 0) = Value.int .i64 _
   rw [hzs]; rfl
 | _ + 1, hg => cases hg
noncomputable def laidWorld (os : Os) : World :=
 let w0 := World.holding Tryd.prog os ⟨#[], #[], []⟩
 { w0 with heap := (w0.heap.modify 0 fun
   | .cells _ t f => .cells #[.slice (some ⟨w0.heap.size, 0, none⟩) 16 16] t f
   | o => o).push (.cells (([0, 1, 1, 2, 1, 2, 2, 3, 1, 2, 2, 3, 2, 3, 3, 4].map fun z => Value.int .i64 z).toArray) 3 (0, 0)) }
theorem laidWorld_met (os : Os) (args : Array Value) : laidMetH Tryd.prog laidL ((laidWorld os).forCall (fun _ _ => 0) ⟨#[], args, []⟩).memory := by
 rw [Go.MakeChecks.laidMetH_plain _ _ _ (by rfl)]
 exact laidMet_of_run' 8 (by kernel_rfl) (by kernel_rfl)
set_option maxRecDepth 100000 in
theorem lawShellT {f : Nat} {fn : Func} {s : ChangeSpec} (ts : List DT) {tb : TypeId} (hfn : Tryd.prog.funcs[f]? = some fn) (noInit : Tryd.prog.inits.idxOf? f = none) (hvars : s.vars = []) (hrt : fn.resultTypes = #[tb]) (hbool : Tryd.prog.underlying tb = some .bool)
  (hread : readsAll Tryd.prog ts fn.params.toList = true) (os : Os) (started : os.Started) (H : Type) (enc : TypeId × Value → H) (dom : List PathCond)
  (hs : ∀ ds : List (DataW H), ds.length = fn.params.toList.length → s.fn H ds = { results := [.lit (.bool true)], args := ds })
  (witness : ∃ (w : World) (tape : Tape) (i : Input), w.os = os ∧ (w.forCall tape i).Shaped Tryd.checked.prog ∧ i.vars = [] ∧ Input.okWide Tryd.checked.prog (w.forCall tape i) .any w.heap.size f i ∧
   ((s.pre enc Tryd.checked.prog fn dom false (w.forCall tape i).memory i.args ∧ laidMetH Tryd.prog laidL (w.forCall tape i).memory) ∧ sizedMet enc Tryd.checked.prog fn (OpenSpec.ofChange s) false (w.forCall tape i).memory i.args) ∧ ({} : Assume).holds Tryd.checked.prog (lone (Frame.enter Tryd.checked.prog f i.args .normal) [] (w.forCall tape i)))
  (walk : ∀ (w : World) (vs : List Value), GlbOk w (fun b => b < w.heap.size) → ArgsOk w ts vs → Calls Tryd.prog f vs.toArray w fun e w' => e = .returned (.bool true) ∧ Below w.heap.size w w') :
  ReturnsInHanded {} Tryd.checked os f .any (fun w args => (s.pre enc Tryd.prog fn dom false w args ∧ laidMetH Tryd.prog laidL w) ∧ sizedMet enc Tryd.prog fn (OpenSpec.ofChange s) false w args) (s.post enc Tryd.prog fn false true false false) := by
 refine returnsInHanded_of_change_and (C := Tryd.checked) (X := fun w _ => laidMetH Tryd.prog laidL w) (fun _ _ _ hh h => h.of_heap hh) ownKnob0 started noInit hfn witness ?_
 intro W base args ds gs before hval0 hW hcnd _ hL _
 have hW' := hW
 obtain ⟨p, q, hA0, hV, rfl, hfz, hnd⟩ := hW
 rw [hvars] at hV
 obtain ⟨rfl, rfl⟩ := trodVars_none hV
 have hA : DataW.TrodAll enc Tryd.prog W 0 (fun _ => true) true fn.params.toList args.toList ds p := hA0
 obtain ⟨hok, hlen⟩ := argsOk hread (w := W) (base' := base) (P := Tryd.prog) (ts := ts) (vs := args.toList) (fun j T v hT hv => hval0 j T v (Array.getElem?_toList.symm.trans hT) (Array.getElem?_toList.symm.trans hv)) hA
 have hlt : ∀ x ∈ p, x.block < W.heap.size := DataW.TrodAll.lt hA
 refine (walk W args.toList (glb_of_laid hL) hok).mono fun e W' ⟨he, bel⟩ => ?_
 subst he
 refine ⟨_, rfl, ds, [], _, [], p, [], hW', ?_, ?_, ?_, bel.frame _, fun h => by cases h⟩
 ·rw [hrt, List.append_nil, hs ds hlen]
  exact trodAll_mk1 (shut_bool hbool _)
 ·rw [List.append_nil, hs ds hlen]
  exact trodAll_below laidOut0 bel hread hA hlt
 ·rw [hvars, List.append_nil, hs ds hlen]; rfl
set_option maxRecDepth 100000 in
theorem mainIs0 : Tryd.pinned.checked.prog.mainIs = some (true, "37475130d8c6f74d13b2dd20985bc1ca598a63f10d0182e8426955af0e51dba4".toList) := by kernel_rfl
end Go.Proofs.YtfopcfnggdonkaaDoor
