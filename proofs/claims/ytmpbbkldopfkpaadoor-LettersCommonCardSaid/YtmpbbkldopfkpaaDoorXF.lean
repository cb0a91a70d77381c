/-
 A map that a function returns, told in another order.
-/
import Derived.Test.YtmpbbkldopfkpaaDoorYD
namespace Go.Proofs.YtmpbbkldopfkpaaDoor
open Go.RowKit
set_option linter.unusedVariables false

theorem Frame.frzMap {F : Nat → Prop} {w : World} {π : Nat → Pl} {O' O2 : List (Nat × TO)} {id : Nat} {kt vt : DT} {l' l : List (kt.den × vt.den)} (h : Frame F w π O') (hid : tlook O' id = some (.map kt vt l')) (hp : l'.Perm l) (ho : tlook O2 = fun j => if j = id then some (.fmp kt vt l) else tlook O' j) :
  Frame F w π O2 ∧ (∀ x v, VR w (Gz F w π (tlook O')) π (tlook O') x v → VR w (Gz F w π (tlook O2)) π (tlook O2) x v) ∧ ∀ j g, Own π (tlook O2) j g → Own π (tlook O') j g := by
 have own : ∀ j g, Own π (tlook O2) j g → j ≠ id ∧ Own π (tlook O') j g := fun j g ⟨r3, o, r2, r4⟩ => by
  have r2 : (if j = id then some (TO.fmp kt vt l) else tlook O' j) = some o := by rw [ho] at r2; exact r2
  by_cases e : j = id
  ·rw [if_pos e] at r2; obtain rfl := Option.some.inj r2; cases r4
  ·rw [if_neg e] at r2; exact ⟨e, r3, o, r2, r4⟩
 have hG : ∀ b, Gz F w π (tlook O') b → Gz F w π (tlook O2) b := fun b ⟨h0, h1, h2⟩ => ⟨h0, h1, fun i hi => h2 i (own i b hi).2⟩
 have hfm : ∀ g', (π id).g = some g' → FMap w (Gz F w π (tlook O2)) kt vt l (.map (some g')) := fun g' hg' => by
  obtain ⟨g, es, ck, q1, q2, q3, q4, q5, q6⟩ := h.obj id _ hid
  rw [q1] at hg'; obtain rfl := Option.some.inj hg'
  have ho1 : Own π (tlook O') id g := ⟨q1, _, hid, rfl⟩
  have hn := h.new id g ho1
  refine ⟨l', hp, g, es, ck, rfl, ⟨hn.1, hn.2, fun i hi => (own i g hi).1 (h.inj i id g (own i g hi).2 ho1)⟩, q2, q3, q4, q5, fun i e he => ?_⟩
  obtain ⟨x, a1, a2, a3⟩ := q6 i e he
  exact ⟨x, a1, DT.val_mono (fun b hb => ⟨hG b hb, rfl⟩) a2, DT.val_mono (fun b hb => ⟨hG b hb, rfl⟩) a3⟩
 have E : Evo w (Gz F w π (tlook O')) π (tlook O') w (Gz F w π (tlook O2)) π (tlook O2) := ⟨fun b hb => ⟨hG b hb, rfl⟩, fun j o hj => by
  by_cases e : j = id
  ·subst e
   rw [hid] at hj; obtain rfl := Option.some.inj hj
   exact ⟨.fmp kt vt l, by rw [ho]; exact if_pos rfl, l, rfl, hfm⟩
  ·exact ⟨o, by rw [ho]; exact (if_neg e).trans hj, Step.refl o⟩⟩
 refine ⟨⟨fun j o hj => ?_, fun i j g h1 h2 => h.inj i j g (own i g h1).2 (own j g h2).2, fun i g h1 => h.new i g (own i g h1).2⟩, fun x v hv => hv.evo E, fun j g hj => (own j g hj).2⟩
 have hj : (if j = id then some (TO.fmp kt vt l) else tlook O' j) = some o := by rw [ho] at hj; exact hj
 by_cases e : j = id
 ·rw [if_pos e] at hj; obtain rfl := Option.some.inj hj; trivial
 ·rw [if_neg e] at hj
  exact (h.obj j o hj).evo E rfl fun _ _ _ => rfl
theorem HSpec.frzMap {P : Program} {f : FuncId} {args : List TV} {O : List (Nat × TO)} {Q Q' : TV → List (Nat × TO) → Prop} (h : HSpec P f args O Q)
  (hq : ∀ r O', Q r O' → ∃ (id : Nat) (kt vt : DT) (l' l : List (kt.den × vt.den)) (O2 : List (Nat × TO)), tlook O' id = some (.map kt vt l') ∧ tlook O id = none ∧ l'.Perm l ∧ (tlook O2 = fun j => if j = id then some (.fmp kt vt l) else tlook O' j) ∧ Q' r O2) : HSpec P f args O Q' :=
 ⟨h.enters, fun w F π vs h1 h2 h3 h4 h5 => (h.calls w F π vs h1 h2 h3 h4 h5).mono fun e w' ⟨r, v, O', π', a, b, c, d, k, m, n⟩ => by
  obtain ⟨id, kt, vt, l', l, O2, t1, t2, t3, t4, t5⟩ := hq r O' b
  obtain ⟨f1, f2, f3⟩ := c.frzMap t1 t3 t4
  refine ⟨r, v, O2, π', a, t5, f1, f2 _ _ d, fun j o hj => ?_, fun j g hg => m j g (f3 j g hg), n⟩
  obtain ⟨o', q1, q2⟩ := k j o hj
  have hne : j ≠ id := fun e => by rw [e, t2] at hj; cases hj
  exact ⟨o', by rw [t4]; exact (if_neg hne).trans q1, q2⟩⟩
theorem liftedP {f : Nat} {fn : Func} {L : List (Nat × FnC)} {lv : Nat → Option Norm} {rc : Nat → Option (List (Option DT))} {fz : Nat → Bool} {tw : Nat → Option Nat} {N nt : Nat} {en : End} {args : List TV} {O : List (Nat × TO)} {ρ : Type} [Jn ρ] {dec : List TV → List (Nat × TO) → Option ρ} {r : ρ} {Q : TV → List (Nat × TO) → Prop}
  (hf : Tryd.prog.funcs[f]? = some fn) (hb : fn.body.isSome = true) (hname : (fn.name == "runtime.NumGoroutine") = false) (hn : fn.ntmps = args.length + nt) (hO : pinAll O = true) (hL : ∀ p ∈ L, FnOk Tryd.prog p.1 p.2)
  (h : callF (mkEw TI TY L rc fz tw) lv N en (bodyOf fn) (resOf fn) nt args O dec = some r) (hd : ∀ l o, dec l o = some r → Q (tupOf l) o) : HSpec Tryd.prog f args O Q :=
 (callF_ok hmix tok (envOk_ofw hL) (seqsOk_none _) hf (body_of hb) (res_of fn) hname hn hO h).mono fun x o ⟨l, e1, e2⟩ => by
  rw [e1]; exact hd l o e2
end Go.Proofs.YtmpbbkldopfkpaaDoor
