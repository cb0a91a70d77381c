/-
 What the program lays in its tables, as the logic wants it; the shell of a law whose tables are tied.
-/
import Derived.Test.YtfopcfnggdonkaaGreatDoorEN
import Derived.Test.YtfopcfnggdonkaaGreatDoorTie
import Derived.Test.YtfopcfnggdonkaaGreatDoorCards
import Derived.SevenTiedAt
import Derived.LaidHandle
import Derived.MakeChecks
import Derived.Lib.LaidU8
import Derived.ChangeSlices
namespace Go.Proofs.YtfopcfnggdonkaaGreatDoor
open Go.Proofs.Tryz
open Go.RowKit Go.ChangeShapes Go.WideShapes Go.ChangeAt
set_option linter.unusedVariables false
abbrev GG : List (String × DataW Unit) := [("unicode/utf8.acceptRanges", Rows.laid_unicode_utf8_acceptRanges), ("unicode/utf8.first", Rows.laid_unicode_utf8_first)]
theorem avI : QQ 0 = some ⟨.arr 256 (.int .u8), Go.Lib.firstTab⟩ := by kernel_rfl
theorem avJ : QQ 1 = some ⟨.arr 16 (.pair (.int .u8) (.pair (.int .u8) .unit)), (List.range 16).map fun i => ((Lib.accLo i : Int), (Lib.accHi i : Int), ())⟩ := by kernel_rfl
theorem ae3 {w : World} {g : Nat} {t : DT} {x : t.den} (hs : 0 < t.size) (h : ∀ c, c < t.size -> ∃ u, w.cell? ⟨g, c, none⟩ = some u /\ u.oneCell' = true /\ t.cell x c w (fun b => b < w.heap.size) u) :
  VR w (fun b => b < w.heap.size) (fun _ => ⟨none, 0, 0, fun _ => ⟨none, 0, 0⟩⟩) (fun _ => none) (.el t x []) (.pointer (some ⟨g, 0, none⟩)) := by
 obtain ⟨u, h0, _⟩ := h 0 hs
 refine ⟨g, 0, _, DT.at_nil _, DT.wO _, rfl, (alE h0).2, fun c hc => ?_⟩
 obtain ⟨u, h1, h2, h3⟩ := h c hc
 exact ⟨u, by rw [Nat.zero_add]; exact h1, h2, h3⟩
theorem avA {w : World} {n g : Nat} {zs : List Int} {cs : Array Value} (hl : zs.length = n) (hn : 0 < n) (hv : ∀ c, w.cell? ⟨g, c, none⟩ = cs[c]?) (hcs : cs.toList = zs.map fun z => Value.int .u8 z) :
  VR w (fun b => b < w.heap.size) (fun _ => ⟨none, 0, 0, fun _ => ⟨none, 0, 0⟩⟩) (fun _ => none) (.el (.arr n (.int .u8)) zs []) (.pointer (some ⟨g, 0, none⟩)) := by
 refine ae3 (by show 0 < n * 1; omega) fun c hc => ?_
 have hc' : c < zs.length := by
  have : c < n * 1 := hc
  omega
 refine ⟨.int .u8 (zs.getD c 0), ?_, rfl, ?_⟩
 ·rw [hv c, <- Array.getElem?_toList, hcs]
  simp [List.getD, hc']
 ·show Value.int .u8 _ = Value.int .u8 (zs.getD (c / 1) 0)
  rw [Nat.div_one]
set_option maxRecDepth 100000 in
theorem au' {w : World} (h : laidMetH prog GG w) : wF w (fun b => b < w.heap.size) := by
 have h1 : laidMet prog GG w := by rw [Go.MakeChecks.laidMetH_plain _ _ _ (by rfl)] at h; exact h
 intro g t x hg
 match g, hg with
 | 0, hg =>
  rw [avI] at hg
  obtain ⟨rfl, hx⟩ := Sigma.mk.inj (Option.some.inj hg)
  obtain rfl := eq_of_heq hx
  obtain ⟨g, t, cs, fuel, p, e1, e2, e3, e4⟩ := Go.Lib.laidMet.reads h1 (n := "unicode/utf8.first") (d := Rows.laid_unicode_utf8_first) (by simp)
  have eg : prog.globalNamed "unicode/utf8.first" = some 0 := by kernel_rfl
  rw [eg] at e1; obtain rfl := Option.some.inj e1
  have et : (prog.globals[0]?).map (·.type) = some 182 := by kernel_rfl
  rw [et] at e2; obtain rfl := Option.some.inj e2
  have e5 : (Rows.laid_unicode_utf8_first : DataW Unit) = Go.Lib.tabData .u8 Go.Lib.firstTab := by kernel_rfl
  rw [e5] at e4
  exact avA (by simp [Go.Lib.firstTab]) (by decide) (World.var?_cell eg e3) (Go.Lib.cells_of_tab underlying182 underlying5 (by kernel_rfl) (by kernel_rfl) e4)
 | 1, hg =>
  rw [avJ] at hg
  obtain ⟨rfl, hx⟩ := Sigma.mk.inj (Option.some.inj hg)
  obtain rfl := eq_of_heq hx
  obtain ⟨g, t, cs, fuel, p, e1, e2, e3, e4⟩ := Go.Lib.laidMet.reads h1 (n := "unicode/utf8.acceptRanges") (d := Rows.laid_unicode_utf8_acceptRanges) (by simp)
  have eg : prog.globalNamed "unicode/utf8.acceptRanges" = some 1 := by kernel_rfl
  rw [eg] at e1; obtain rfl := Option.some.inj e1
  have et : (prog.globals[1]?).map (·.type) = some 185 := by kernel_rfl
  rw [et] at e2; obtain rfl := Option.some.inj e2
  have e5 : (Rows.laid_unicode_utf8_acceptRanges : DataW Unit) = Go.Lib.acceptData := by kernel_rfl
  rw [e5] at e4
  have hcell : ∀ i, i < 16 -> w.cell? ⟨1, 2 * i, none⟩ = some (.int .u8 (Lib.accLo i)) /\ w.cell? ⟨1, 2 * i + 1, none⟩ = some (.int .u8 (Lib.accHi i)) := fun i hi => by
   obtain ⟨fuel', d, q, hdi, he⟩ := Go.Lib.array_elem underlying185 e4 i hi
   simp only [List.getElem?_map, List.getElem?_range hi, Option.map_some, Option.some.injEq] at hdi
   subst hdi
   have ec : prog.cellsOf 184 = 2 := by kernel_rfl
   have ec1 : prog.cellsOf 5 = 1 := by kernel_rfl
   rw [ec] at he
   have hcs := Go.Lib.ints_of_struct (k := .u8) underlying184 (fun j f hj => by
    match j, hj with
    | 0, hj => simp at hj; subst hj; exact ⟨underlying5, rfl, ec1⟩
    | 1, hj => simp at hj; subst hj; exact ⟨underlying5, rfl, ec1⟩
    | j + 2, hj => simp at hj) (by rw [ec]; rfl) he
   have e0 := congrArg (·[0]?) hcs
   have e1 := congrArg (·[1]?) hcs
   simp only [List.getElem?_take, List.getElem?_drop] at e0 e1
   constructor
   ·rw [World.var?_cell eg e3 (2 * i), <- Array.getElem?_toList]
    simpa [Nat.mul_comm] using e0
   ·rw [World.var?_cell eg e3 (2 * i + 1), <- Array.getElem?_toList]
    simpa [Nat.mul_comm] using e1
  refine ae3 (by decide) fun c hc => ?_
  have hc' : c < 32 := hc
  rcases Nat.mod_two_eq_zero_or_one c with h2 | h2
  ·refine ⟨_, by rw [show c = 2 * (c / 2) by omega]; exact (hcell (c / 2) (by omega)).1, rfl, ?_⟩
   show (DT.pair (.int .u8) (.pair (.int .u8) .unit)).cell (((List.range 16).map fun i => ((Lib.accLo i : Int), (Lib.accHi i : Int), ())).getD (c / 2) (0, 0, ())) (c % 2) w _ _
   rw [h2]
   show Value.int .u8 _ = Value.int .u8 _
   have : c / 2 < 16 := by omega
   simp [List.getD, this]
  ·refine ⟨_, by rw [show c = 2 * (c / 2) + 1 by omega]; exact (hcell (c / 2) (by omega)).2, rfl, ?_⟩
   show (DT.pair (.int .u8) (.pair (.int .u8) .unit)).cell (((List.range 16).map fun i => ((Lib.accLo i : Int), (Lib.accHi i : Int), ())).getD (c / 2) (0, 0, ())) (c % 2) w _ _
   rw [h2]
   show Value.int .u8 _ = Value.int .u8 _
   have : c / 2 < 16 := by omega
   simp [List.getD, this]
 | _ + 2, hg => cases hg
def afU (zs : List Int) : Array Value := (zs.map fun z => Value.int .u8 z).toArray
noncomputable def laidWorld (os : Os) : World :=
 let w0 := World.holding prog os ⟨#[], #[], []⟩
 let put := fun (zs : Array Value) (o : Obj) => match o with
  | .cells _ t f => .cells zs t f
  | o => o
 { w0 with heap := (w0.heap.modify 0 (put (afU Go.Lib.firstTab))).modify 1 (put (afU [128, 191, 160, 191, 128, 159, 144, 191, 128, 143, 0, 0, 0, 0, 0, 0, 0, 0, 0, 0, 0, 0, 0, 0, 0, 0, 0, 0, 0, 0, 0, 0])) }
set_option maxRecDepth 100000 in
theorem laidWorld_met (os : Os) (args : Array Value) : laidMetH prog GG ((laidWorld os).forCall (fun _ _ => 0) ⟨#[], args, []⟩).memory := by
 rw [Go.MakeChecks.laidMetH_plain _ _ _ (by rfl)]
 exact laidMet_of_run' 8 (by kernel_rfl) (by kernel_rfl)
set_option maxRecDepth 100000 in
theorem ayA {f : Nat} {fn : Func} {s : ChangeSpec} (ts : List DT) {tb : TypeId} (hfn : prog.funcs[f]? = some fn) (noInit : prog.inits.idxOf? f = none) (hvars : s.vars = []) (hrt : fn.resultTypes = #[tb]) (awI : prog.underlying tb = some .bool)
  (hread : CY prog ts fn.params.toList = true) (os : Os) (started : os.Started) (H : Type) (enc : TypeId × Value -> H) (dom : List PathCond)
  (hs : ∀ ds : List (DataW H), ds.length = fn.params.toList.length -> s.fn H ds = { results := [.lit (.bool true)], args := ds })
  (witness : ∃ (w : World) (tape : Tape) (i : Input), w.os = os /\ (w.forCall tape i).Shaped Tryz.checked.prog /\ i.vars = [] /\ Input.okWide Tryz.checked.prog (w.forCall tape i) .any w.heap.size f i /\
   ((s.pre enc Tryz.checked.prog fn dom false (w.forCall tape i).memory i.args /\ laidMetH prog GG (w.forCall tape i).memory) /\ sizedMet enc Tryz.checked.prog fn (OpenSpec.ofChange s) false (w.forCall tape i).memory i.args) /\ ({} : Assume).holds Tryz.checked.prog (lone (Frame.enter Tryz.checked.prog f i.args .normal) [] (w.forCall tape i)))
  (walk : ∀ (w : World) (vs : List Value), wF w (fun b => b < w.heap.size) -> sN w ts vs -> Calls prog f vs.toArray w fun e w' => e = .returned (.bool true) /\ Below w.heap.size w w') :
  ReturnsInHanded {} Tryz.checked os f .any (fun w args => (s.pre enc prog fn dom false w args /\ laidMetH prog GG w) /\ sizedMet enc prog fn (OpenSpec.ofChange s) false w args) (s.post enc prog fn false true false false) := by
 refine returnsInHanded_of_change_and (C := Tryz.checked) (X := fun w _ => laidMetH prog GG w) (fun _ _ _ hh h => h.of_heap hh) aCL started noInit hfn witness ?_
 intro W base args ds gs before hval0 hW hcnd _ hL _
 have hW' := hW
 obtain ⟨p, q, hA0, hV, rfl, hfz, hnd⟩ := hW
 rw [hvars] at hV
 obtain ⟨rfl, rfl⟩ := trodVars_none hV
 have hA : DataW.TrodAll enc prog W 0 (fun _ => true) true fn.params.toList args.toList ds p := hA0
 obtain ⟨hok, hlen⟩ := acF hread (w := W) (base' := base) (P := prog) (ts := ts) (vs := args.toList) (fun j T v hT hv => hval0 j T v (Array.getElem?_toList.symm.trans hT) (Array.getElem?_toList.symm.trans hv)) hA
 have hlt : ∀ x ∈ p, x.block < W.heap.size := DataW.TrodAll.lt hA
 refine (walk W args.toList (au' hL) hok).mono fun e W' ⟨he, bel⟩ => ?_
 subst he
 refine ⟨_, rfl, ds, [], _, [], p, [], hW', ?_, ?_, ?_, bel.frame _, fun h => by cases h⟩
 ·rw [hrt, List.append_nil, hs ds hlen]
  exact trodAll_mk1 (shut_bool awI _)
 ·rw [List.append_nil, hs ds hlen]
  exact al0 ax' bel hread hA hlt
 ·rw [hvars, List.append_nil, hs ds hlen]; rfl
set_option maxRecDepth 100000 in
theorem azP : Tryz.pinned.checked.prog.mainIs = some (true, "8eca92490ef2875c309c1d626cc6b1668343fa11f971891b1da5bd0a691c8ca7".toList) := by kernel_rfl
end Go.Proofs.YtfopcfnggdonkaaGreatDoor
