/-
  The law MarkFrames returns true and turns nothing that was there; the table count is what the program lays.
-/
import Derived.Test.YtbjfbbfglkmadaaDoorR4
import Derived.Test.YtbjfbbfglkmadaaDoorL5
import Derived.Test.YtbjfbbfglkmadaaDoorRows
import Derived.Test.YtbjfbbfglkmadaaDoorLD
import Derived.WalkKit
import Derived.ProofKit
import Derived.OpenShut
import Derived.ChangeOld
import Derived.Below
namespace Go.Proofs.YtbjfbbfglkmadaaDoor.markFrames
open Go.RowKit Go.ChangeShapes Go.WideShapes Go.ChangeAt
set_option linter.unusedVariables false

theorem frA_len {c : Cd} {z : Int} (hn : c.2.1.length ≤ 10) : ∀ (l : List (List Int)) (b : Option (List Int) × Int), (∀ x ∈ l, x.length ≤ 10) → (∀ y, b.1 = some y → y.length ≤ 10) → ∀ y, (l.foldl (frS c) b).1 = some y → y.length ≤ 10
  | [], b, _, h, y, hy => h y hy
  | x :: r, b, hl, h, y, hy => by
    rw [List.foldl_cons] at hy
    refine frA_len (z := z) hn r _ (fun u hu => hl u (by simp [hu])) (fun u hu => ?_) y hy
    unfold frS at hu
    cases e : b.1.isSome && decide ((b.1.getD []).length ≤ x.length) with
    | true => rw [e] at hu; exact h u hu
    | false =>
      rw [e, cond_false] at hu
      cases e2 : fi c x 0 c.2.1 with
      | none => rw [e2] at hu; exact h u hu
      | some i =>
        rw [e2] at hu
        rw [← Option.some.inj hu]; exact hl x (by simp)
theorem frR_len {c : Cd} {z : Int} (hn : c.2.1.length ≤ 10) : (frR (frA c z)).1.length ≤ 10 := by
  have h := frA_len (c := c) (z := z) hn (co c.2.1.length z.toNat) (none, 0) (fun x hx => by have := isCo_len (co_mem.1 hx); omega) (fun y hy => by cases hy)
  unfold frR frA
  cases e : ((co c.2.1.length z.toNat).foldl (frS c) (none, 0)).1 with
  | none => simp
  | some y => exact h y e
def B5 (c : Cd) (z : Int) : Option Bool := some true
theorem KB5 : FnOk Tryd.prog 5 (F5 B5) := ok5 B14 (some true) B32 B34 B34 KB14 K15t KB32 KB34 KB35 B5 fun c z r h => ⟨0, by
  rw [← h, m5]
  simp only [B14, Option.bind_some]
  cases e : (decide (20 < c.2.1.length) || c.2.1.any fun w => decide (20 < w.length)) with
  | true => rfl
  | false =>
    have hs := B14_no e
    simp only [cond_false, B34, if_pos hs, Option.bind_some]
    have key : ∀ v : List Int × Int × Int, v.1.length ≤ 10 → ((B32 v.1 v.1).bind fun r5 => cond r5 (cond (v.2.1 == v.2.1) (cond (v.2.2 == v.2.2) ((some true).bind fun r6 => some r6) (some false)) (some false)) (some false)) = some true := fun v hv => by
      rw [B32, if_pos (by omega), Option.bind_some, decide_eq_true rfl, beq_self_eq_true, beq_self_eq_true]; rfl
    refine key _ ?_
    cases e1 : decide (cdE c = 0) with
    | false => simp
    | true =>
      have hn := (cdE_ok (of_decide_eq_true e1)).2.1
      rw [cond_true]
      cases decide (1 ≤ z ∧ z ≤ 10) with
      | false => simp
      | true => exact frR_len hn.2⟩
theorem K (y0 : Cd) (y1 : Int) (_ : DT.wf (.pair (.int .i64) (.pair (.sl (.sl (.int .i64))) .unit)) y0) (_ : DT.wf (.int .i64) y1) : FnOk Tryd.prog 5 (F5 (fun _ _ => some true)) := KB5

set_option maxRecDepth 100000 in
theorem walk (w : World) (vs : List Value) (hgl : GlbOk w (fun b => b < w.heap.size)) (h : ArgsOk w [.pair (.int .i64) (.pair (.sl (.sl (.int .i64))) .unit), .int .i64] vs) : Calls Tryd.prog 5 vs.toArray w fun e w' => e = .returned (.bool true) ∧ Below w.heap.size w w' := by
  obtain ⟨v0, vs0, y0, rfl, w0, h0, k0⟩ := ArgsOk.cons h
  obtain ⟨v1, vs1, y1, rfl, w1, h1, k1⟩ := ArgsOk.cons k0
  obtain rfl := ArgsOk.nil k1
  exact walkAll (K y0 y1 w0 w1) (xs := [.dv (.pair (.int .i64) (.pair (.sl (.sl (.int .i64))) .unit)) y0, .dv (.int .i64) y1]) (r := true) (rfl) rfl (HoldsAll.cons h0 (HoldsAll.cons h1 HoldsAll.nil)) hgl

set_option maxRecDepth 100000 in
theorem lifted (os : Os) (started : os.Started) (H : Type) (enc : TypeId × Value → H) :
    ReturnsInHanded {} Tryd.checked os 5 .any (fun w args => (Rows.markFramesSpec.pre enc Tryd.prog Tryd.f5 [] false w args ∧ laidMetH Tryd.prog laidL w) ∧ sizedMet enc Tryd.prog Tryd.f5 (OpenSpec.ofChange Rows.markFramesSpec) false w args) (Rows.markFramesSpec.post enc Tryd.prog Tryd.f5 false true false false) :=
  lawShellT (fn := Tryd.f5) (s := Rows.markFramesSpec) (tb := 4) [.pair (.int .i64) (.pair (.sl (.sl (.int .i64))) .unit), .int .i64] Tryd.func5 (by kernel_rfl) (by kernel_rfl) (by kernel_rfl) Tryd.underlying4 (by kernel_rfl) os started H enc []
    (fun ds hl => by
      match ds, hl with
      | [d0, d1], _ => rfl)
    (ChangeSpec.witness_shaped (enc := enc) (C := Tryd.checked) (os := os) (X := fun w _ => laidMetH Tryd.prog laidL w) false (laidWorld os) #[.agg #[.int .i64 0, .slice none 0 0], .int .i64 0] 8 rfl (World.shaped_of_RefB (by kernel_rfl) (by kernel_rfl)) (by kernel_rfl) (by kernel_rfl) (by kernel_rfl) (laidWorld_met os _)) walk

theorem over : Rows.MarkFramesSaid :=
  OpenClaim.holds_of_wide 5 Tryd.f5 rfl rfl rfl rfl rfl rfl rfl ⟨rfl, rfl, rfl, rfl, rfl⟩ rfl rfl rfl rfl rfl (by kernel_rfl) Tryd.func5 (by kernel_rfl)
    (of_decide_eq_true (by kernel_rfl)) (by unfold Func.isWrapper; first | (rw [if_pos (by decide +kernel)]; kernel_rfl) | (rw [if_neg (by decide +kernel)]; exact ⟨rfl, rfl⟩))
    (fun os started H enc _ => lifted os started H enc)

set_option maxRecDepth 100000 in
/-- THE STATEMENT. -/
theorem proved : Rows.MarkFramesCardSaid :=
  Claim7.holds_tied_plain_at .later [] [.data] true (true, "018cc82852a7e087e6539cfb5cb3f00d3e0f6e4bd9da8bf234baf6754ce1d347") false
    over (fun _ h => by cases h) (by kernel_rfl) (fun _ h => by cases h) markFrames_row_tie rfl ⟨rfl, rfl⟩ mainIs0 rfl
    (fun f fn hf hfn => by
      obtain rfl : f = 5 := Option.some.inj ((show Tryd.prog.funcNamed "tusche/tuschelaw09.MarkFrames" = some 5 by kernel_rfl).symm.trans hf) |>.symm
      obtain rfl : fn = Tryd.f5 := (Option.some.inj (Tryd.func5.symm.trans hfn)).symm
      exact ⟨by kernel_rfl, fun j t ht => by
        rw [Tryd.params5] at ht
        have hall : (#[24, 3] : Array TypeId).toList.all (fun t => !Tryd.pinned.checked.prog.wantsStandIn t) = true := by kernel_rfl
        have := List.all_eq_true.1 hall t (Array.mem_toList_iff.2 (Array.mem_of_getElem? ht))
        simpa using this⟩)
    (by kernel_rfl)

end Go.Proofs.YtbjfbbfglkmadaaDoor.markFrames
