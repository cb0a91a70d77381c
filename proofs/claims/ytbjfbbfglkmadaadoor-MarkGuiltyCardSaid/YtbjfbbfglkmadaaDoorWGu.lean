/-
  The law MarkGuilty returns true and turns nothing that was there; the table count is what the program lays.
-/
import Derived.Test.YtbjfbbfglkmadaaDoorR5
import Derived.Test.YtbjfbbfglkmadaaDoorL4
import Derived.Test.YtbjfbbfglkmadaaDoorRows
import Derived.Test.YtbjfbbfglkmadaaDoorLD
import Derived.WalkKit
import Derived.ProofKit
import Derived.OpenShut
import Derived.ChangeOld
import Derived.Below
namespace Go.Proofs.YtbjfbbfglkmadaaDoor.markGuilty
open Go.RowKit Go.ChangeShapes Go.WideShapes Go.ChangeAt
set_option linter.unusedVariables false

theorem len24 {c : Cd} {w : List Int} : (cond (decide (cwE c w = 0)) (fwF c w c.2.1.length 1) ([], cwE c w)).1.length ≤ 1000 := by
  cases e : decide (cwE c w = 0) with
  | false => simp
  | true =>
    have hn := (cdE_ok (cwE_ok (of_decide_eq_true e)).1).2.1
    obtain ⟨b, hb, hv⟩ := fwF_best (c := c) (w := w) hn.2 c.2.1.length 1 (by omega) fun x hx _ => isCo_ne (co_mem.1 hx)
    rw [cond_true, hv]
    cases decide (b.length = 0) with
    | true => simp
    | false =>
      rw [cond_false]
      rcases hb with ⟨h, _⟩ | ⟨h, _⟩
      · rw [h]; simp
      · have := isCo_len (co_mem.1 h)
        show b.length ≤ 1000
        omega
abbrev v26 (c : Cd) (w : List Int) (z : Int) : List (List Int) × Int := cond (decide (cwE c w = 0)) (cond (decide (1 ≤ z ∧ z ≤ 10)) (lnL c w z, 0) ([], 4)) ([], cwE c w)
theorem len26 {c : Cd} {w : List Int} {z : Int} : (v26 c w z).1.length ≤ 10000 ∧ ∀ x ∈ (v26 c w z).1, x.length ≤ 1000 := by
  unfold v26
  cases e : decide (cwE c w = 0) with
  | false => simp
  | true =>
    have hn := (cdE_ok (cwE_ok (of_decide_eq_true e)).1).2.1
    cases decide (1 ≤ z ∧ z ≤ 10) with
    | false => simp
    | true =>
      have := lnL_len (c := c) (w := w) (z := z) hn.2
      refine ⟨show (lnL c w z).length ≤ 10000 by omega, fun x hx => ?_⟩
      have := isCo_len (lnL_mem (z := z) hx)
      omega
theorem len28 {c : Cd} {w : List Int} {z : Int} : (guV c w z).1.length ≤ 10000 := by
  unfold guV
  cases e : decide (cwE c w = 0) with
  | false => simp
  | true =>
    have hn := (cdE_ok (cwE_ok (of_decide_eq_true e)).1).2.1
    cases decide (1 ≤ z ∧ z ≤ 10) with
    | false => simp
    | true =>
      cases decide ((lnL c w z).length = 0) with
      | true => simp
      | false =>
        show (gl c w z).length ≤ 10000
        unfold gl glF
        refine Nat.le_trans (List.length_filter_le _ _) ?_
        rw [List.length_map, List.length_range']
        omega
theorem len30 {c : Cd} {w : List Int} : (nrV c w).1.length ≤ 10000 := by
  unfold nrV
  cases e : decide (cwE c w = 0) with
  | false => simp
  | true =>
    have hn := (cdE_ok (cwE_ok (of_decide_eq_true e)).1).2.1
    have := nrF_len w (nrM c w) c.2.1 0
    show (nrF w (nrM c w) 0 c.2.1).length ≤ 10000
    omega
theorem same32 {a : List Int} {x : Option Bool} (h : a.length ≤ 10000) : ((B32 a a).bind fun r => cond r x (some false)) = x := by
  rw [B32, if_pos h, Option.bind_some, decide_eq_true rfl, cond_true]
theorem same33 {a : List (List Int)} {x : Option Bool} (h : a.length ≤ 10000 ∧ ∀ x ∈ a, x.length ≤ 1000) : ((B33 a a).bind fun r => cond r x (some false)) = x := by
  rw [B33, if_pos h, Option.bind_some, decide_eq_true rfl, cond_true]
def B4 (c : Cd) (w : List Int) (z : Int) : Option Bool := some true
theorem KB4 : FnOk Tryd.prog 4 (F4 B4) := ok4 B14 (some true) B24 B24 B26 B26 B28 B28 B30 B30 B32 B33 KB14 K15t KB24 KB25 KB26 KB27 KB28 KB29 KB30 KB31 KB32 KB33 B4 fun c w z r h => ⟨0, by
  rw [← h, m4]
  simp only [B14, Option.bind_some]
  cases e : (decide (20 < c.2.1.length) || c.2.1.any fun w => decide (20 < w.length)) with
  | true => rfl
  | false =>
    have hs := B14_no e
    rw [cond_false, show decide ((w.length : Int) > 40) = decide (40 < w.length) from lenGt _ 40]
    cases e1 : decide (40 < w.length) with
    | true => rfl
    | false =>
      have hw := of_decide_eq_false e1
      have hsw : smB c = true ∧ w.length ≤ 1000 := ⟨hs, by omega⟩
      have e24 : B24 c w = some (cond (decide (cwE c w = 0)) (fwF c w c.2.1.length 1) ([], cwE c w)) := if_pos hsw
      have e26 : B26 c w z = some (v26 c w z) := if_pos hsw
      have e28 : B28 c w z = some (guV c w z) := if_pos hsw
      have e30 : B30 c w = some (nrV c w) := if_pos hsw
      rw [cond_false, e24, e26, e28, e30]
      have l24 := len24 (c := c) (w := w)
      simp only [Option.bind_some, beq_self_eq_true, cond_true]
      rw [same32 (by omega), same33 len26, same32 len28, same32 len30]
      rfl⟩
theorem K (y0 : Cd) (y1 : List Int) (y2 : Int) (_ : DT.wf (.pair (.int .i64) (.pair (.sl (.sl (.int .i64))) .unit)) y0) (_ : DT.wf (.sl (.int .i64)) y1) (_ : DT.wf (.int .i64) y2) : FnOk Tryd.prog 4 (F4 (fun _ _ _ => some true)) := KB4

set_option maxRecDepth 100000 in
theorem walk (w : World) (vs : List Value) (hgl : GlbOk w (fun b => b < w.heap.size)) (h : ArgsOk w [.pair (.int .i64) (.pair (.sl (.sl (.int .i64))) .unit), .sl (.int .i64), .int .i64] vs) : Calls Tryd.prog 4 vs.toArray w fun e w' => e = .returned (.bool true) ∧ Below w.heap.size w w' := by
  obtain ⟨v0, vs0, y0, rfl, w0, h0, k0⟩ := ArgsOk.cons h
  obtain ⟨v1, vs1, y1, rfl, w1, h1, k1⟩ := ArgsOk.cons k0
  obtain ⟨v2, vs2, y2, rfl, w2, h2, k2⟩ := ArgsOk.cons k1
  obtain rfl := ArgsOk.nil k2
  exact walkAll (K y0 y1 y2 w0 w1 w2) (xs := [.dv (.pair (.int .i64) (.pair (.sl (.sl (.int .i64))) .unit)) y0, .dv (.sl (.int .i64)) y1, .dv (.int .i64) y2]) (r := true) (rfl) rfl (HoldsAll.cons h0 (HoldsAll.cons h1 (HoldsAll.cons h2 HoldsAll.nil))) hgl

set_option maxRecDepth 100000 in
theorem lifted (os : Os) (started : os.Started) (H : Type) (enc : TypeId × Value → H) :
    ReturnsInHanded {} Tryd.checked os 4 .any (fun w args => (Rows.markGuiltySpec.pre enc Tryd.prog Tryd.f4 [] false w args ∧ laidMetH Tryd.prog laidL w) ∧ sizedMet enc Tryd.prog Tryd.f4 (OpenSpec.ofChange Rows.markGuiltySpec) false w args) (Rows.markGuiltySpec.post enc Tryd.prog Tryd.f4 false true false false) :=
  lawShellT (fn := Tryd.f4) (s := Rows.markGuiltySpec) (tb := 4) [.pair (.int .i64) (.pair (.sl (.sl (.int .i64))) .unit), .sl (.int .i64), .int .i64] Tryd.func4 (by kernel_rfl) (by kernel_rfl) (by kernel_rfl) Tryd.underlying4 (by kernel_rfl) os started H enc []
    (fun ds hl => by
      match ds, hl with
      | [d0, d1, d2], _ => rfl)
    (ChangeSpec.witness_shaped (enc := enc) (C := Tryd.checked) (os := os) (X := fun w _ => laidMetH Tryd.prog laidL w) false (laidWorld os) #[.agg #[.int .i64 0, .slice none 0 0], .slice none 0 0, .int .i64 0] 8 rfl (World.shaped_of_RefB (by kernel_rfl) (by kernel_rfl)) (by kernel_rfl) (by kernel_rfl) (by kernel_rfl) (laidWorld_met os _)) walk

theorem over : Rows.MarkGuiltySaid :=
  OpenClaim.holds_of_wide 4 Tryd.f4 rfl rfl rfl rfl rfl rfl rfl ⟨rfl, rfl, rfl, rfl, rfl⟩ rfl rfl rfl rfl rfl (by kernel_rfl) Tryd.func4 (by kernel_rfl)
    (of_decide_eq_true (by kernel_rfl)) (by unfold Func.isWrapper; first | (rw [if_pos (by decide +kernel)]; kernel_rfl) | (rw [if_neg (by decide +kernel)]; exact ⟨rfl, rfl⟩))
    (fun os started H enc _ => lifted os started H enc)

set_option maxRecDepth 100000 in
/-- THE STATEMENT. -/
theorem proved : Rows.MarkGuiltyCardSaid :=
  Claim7.holds_tied_plain_at .later [] [.data] true (true, "018cc82852a7e087e6539cfb5cb3f00d3e0f6e4bd9da8bf234baf6754ce1d347") false
    over (fun _ h => by cases h) (by kernel_rfl) (fun _ h => by cases h) markGuilty_row_tie rfl ⟨rfl, rfl⟩ mainIs0 rfl
    (fun f fn hf hfn => by
      obtain rfl : f = 4 := Option.some.inj ((show Tryd.prog.funcNamed "tusche/tuschelaw09.MarkGuilty" = some 4 by kernel_rfl).symm.trans hf) |>.symm
      obtain rfl : fn = Tryd.f4 := (Option.some.inj (Tryd.func4.symm.trans hfn)).symm
      exact ⟨by kernel_rfl, fun j t ht => by
        rw [Tryd.params4] at ht
        have hall : (#[24, 25, 3] : Array TypeId).toList.all (fun t => !Tryd.pinned.checked.prog.wantsStandIn t) = true := by kernel_rfl
        have := List.all_eq_true.1 hall t (Array.mem_toList_iff.2 (Array.mem_of_getElem? ht))
        simpa using this⟩)
    (by kernel_rfl)

end Go.Proofs.YtbjfbbfglkmadaaDoor.markGuilty
