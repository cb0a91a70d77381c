/-
  The closure fits of press.greedy, where the set lies in a row of one's own: by its contract where all is frozen memory.
-/
import Derived.Test.YtbblnbolabpfmaaInsOk
namespace Go.Proofs.Ytbblnbolabpfmaa
open Go.RowKit
set_option linter.unusedVariables false

theorem tlook3 {a b d : TO} {id : Nat} {o : TO} (h : tlook [(9000, a), (9001, b), (9002, d)] id = some o) : (id = 9000 ∧ o = a) ∨ (id = 9001 ∧ o = b) ∨ (id = 9002 ∧ o = d) := by
  simp only [tlook] at h
  split at h
  · rename_i e; exact .inl ⟨e, (Option.some.inj h).symm⟩
  · split at h
    · rename_i e; exact .inr (.inl ⟨e, (Option.some.inj h).symm⟩)
    · split at h
      · rename_i e; exact .inr (.inr ⟨e, (Option.some.inj h).symm⟩)
      · cases h

/-- From the contract where all is frozen to the one where it is one's own. -/
theorem fits_spec {l : List (Int × Int × Unit)} {set : List Int} {i : Int} {b : Bool} (h : HSpec Try.prog 76 [.dv (.int .i64) i, .el (.sl O3) l [], .el (.sl (.int .i64)) set []] [] fun r O => r = .dv .bool b ∧ O = []) :
    HSpec Try.prog 76 [.dv (.int .i64) i, .ptr 9000 0 [0], .ptr 9001 0 [0]] [(9000, .rcd [.dv (.sl O3) l]), (9001, .rcd [.row 9002]), (9002, .row (.int .i64) set)] fun r O => r = .dv .bool b ∧ O = [(9000, .rcd [.dv (.sl O3) l]), (9001, .rcd [.row 9002]), (9002, .row (.int .i64) set)] := by
  refine ⟨h.enters, fun w F π vs hvl hF hfr hv => ?_⟩
  let O : List (Nat × TO) := [(9000, .rcd [.dv (.sl O3) l]), (9001, .rcd [.row 9002]), (9002, .row (.int .i64) set)]
  let F1 : Nat → Prop := fun b => b < w.heap.size
  have none : ∀ {π : Nat → Pl} {id g : Nat}, ¬ Own π (tlook []) id g := fun ⟨_, o, ho, _⟩ => by cases ho
  have hfr0 : Frame F1 w π [] := ⟨fun id o ho => (by cases ho), fun i j g hi => absurd hi none, fun id g hi => absurd hi none⟩
  have fz : FzTo w (Gz F w π (tlook O)) w (Gz F1 w π (tlook [])) := fun b hb => ⟨⟨hb.2.1, hb.2.1, fun id => none⟩, rfl⟩
  have inG : ∀ {g : Nat}, g < w.heap.size → Gz F1 w π (tlook []) g := fun hg => ⟨hg, hg, fun id => none⟩
  -- the two boxes
  obtain ⟨g0, cur0, e0, p1, p2, p3⟩ := hfr.obj 9000 (.rcd [.dv (.sl O3) l]) (by simp [tlook])
  obtain ⟨g1, cur1, e1, q1, q2, q3⟩ := hfr.obj 9001 (.rcd [.row 9002]) (by simp [tlook])
  obtain ⟨u0, a1, a2, a3⟩ := p3 0 (.dv (.sl O3) l) rfl 0 (by show 0 < 1; omega)
  obtain ⟨u1, b1, b2, b3⟩ := q3 0 (.row 9002) rfl 0 (by show 0 < 1; omega)
  have hrow := hfr.obj 9002 (.row (.int .i64) set) (by simp [tlook])
  have b3' : u1 = (π 9002).hdr set.length := by
    have : VR w (Gz F w π (tlook O)) π (tlook O) (.row 9002) u1 := b3
    simpa [VR, tlook, O] using this
  have hg0 : g0 < w.heap.size := (Array.getElem?_eq_some_iff.1 p2).1
  have hg1 : g1 < w.heap.size := (Array.getElem?_eq_some_iff.1 q2).1
  have hsl : (DT.sl (.int .i64)).cell set 0 w (Gz F1 w π (tlook [])) u1 := by
    rw [b3']
    exact OR.row_slice hrow fz fun g hg => inG (by
      rcases hrow with ⟨r1, _⟩ | ⟨g2, cur2, e2, r1, r2, _⟩
      · rw [r1] at hg; cases hg
      · rw [r1] at hg; obtain rfl := Option.some.inj hg; exact (Array.getElem?_eq_some_iff.1 r2).1)
  refine (h.calls w F1 π vs hvl (fun b hb => hb) hfr0 fun j x v hx hv' => ?_).mono fun e w' ⟨r, v, O', π', he, ⟨hr, hO'⟩, hfr', hv', _, _, hk⟩ => ?_
  · match j with
    | 0 =>
      obtain rfl := Option.some.inj hx
      exact DT.val_mono fz (hv 0 _ _ rfl hv')
    | 1 =>
      obtain rfl := Option.some.inj hx
      have hp := hv 1 _ _ rfl hv'
      obtain ⟨c, g, k1, k2, k3, k4⟩ := (by simpa only [VR, tlook, if_true, O] using hp : TO.live (.rcd [.dv (.sl O3) l]) = true → _) rfl
      have hc : c = 0 := by
        have : some (0 + (0 : Nat)) = some c := k1
        have := Option.some.inj this; omega
      rw [p1] at k3; obtain rfl := Option.some.inj k3
      subst hc
      refine ⟨g0, (π 9000).q, _, DT.at_nil _, DT.inb_nil _, k4, inG hg0, fun cc hcc => ⟨u0, ?_, a2, ?_⟩⟩
      · obtain rfl : cc = 0 := by have : cc < 1 := hcc; omega
        rw [cell_at p2, ← a1]; rfl
      · obtain rfl : cc = 0 := by have : cc < 1 := hcc; omega
        exact DT.cell_mono fz a3
    | 2 =>
      obtain rfl := Option.some.inj hx
      have hp := hv 2 _ _ rfl hv'
      have hl9 : tlook [(9000, TO.rcd [.dv (.sl O3) l]), (9001, .rcd [.row 9002]), (9002, .row (.int .i64) set)] 9001 = some (.rcd [.row 9002]) := by simp [tlook]
      simp only [VR, hl9] at hp
      obtain ⟨c, g, k1, k2, k3, k4⟩ := hp rfl
      have hc : c = 0 := by
        have : some (0 : Nat) = some c := k1
        exact (Option.some.inj this).symm
      rw [q1] at k3; obtain rfl := Option.some.inj k3
      subst hc
      refine ⟨g1, (π 9001).q, _, DT.at_nil _, DT.inb_nil _, k4, inG hg1, fun cc hcc => ⟨u1, ?_, b2, ?_⟩⟩
      · obtain rfl : cc = 0 := by have : cc < 1 := hcc; omega
        rw [cell_at q2, ← b1]; rfl
      · obtain rfl : cc = 0 := by have : cc < 1 := hcc; omega
        exact hsl
    | j + 3 => simp at hx
  · subst hr
    have hblk : ∀ b, b < w.heap.size → w'.heap[b]? = w.heap[b]? := fun b hb => hk.block b ⟨fun id => none, hb⟩
    have own : ∀ id g, Own π (tlook O) id g → g < w.heap.size := fun id g h => (hfr.new id g h).2
    have E : Evo w (Gz F w π (tlook O)) π (tlook O) w' (Gz (fun b => F b ∨ w.heap.size ≤ b) w' π (tlook O)) π (tlook O) := ⟨fun b hb => ⟨⟨.inl hb.1, Nat.lt_of_lt_of_le hb.2.1 hk.size, hb.2.2⟩, hblk b hb.2.1⟩, fun id o ho => ⟨o, ho, Step.refl o⟩⟩
    have hvb : v = .bool b := (DT.val_one (t := .bool) rfl).1 hv'
    refine ⟨.dv .bool b, v, O, π, he, ⟨rfl, rfl⟩, ⟨fun id o ho => (hfr.obj id o ho).evo E rfl fun g hg hl => hblk g (own id g ⟨hg, o, ho, hl⟩), hfr.inj, fun id g hg => ⟨.inl (hfr.new id g hg).1, Nat.lt_of_lt_of_le (own id g hg) hk.size⟩⟩, (DT.val_one (t := .bool) rfl).2 hvb, fun id o ho => ⟨o, ho, fun hl => ⟨rfl, Shp.refl hl⟩⟩, fun id g hg => .inl ⟨id, hg⟩, ⟨hk.os, hk.tape, hk.output, hk.size, fun b hb => hblk b hb.2⟩⟩

def A76v (a : Int → List (Int × Int × Unit) → List Int → Option Bool) (i : Int) (l : List (Int × Int × Unit)) (set : List Int) : Option (Bool × List (Int × Int × Unit) × List Int) := (a i l set).map fun b => (b, l, set)

theorem ok76v {a : Int → List (Int × Int × Unit) → List Int → Option Bool} (h : FnOk Try.prog 76 (F76c a)) : FnOk Try.prog 76 (F76cv2 (A76v a)) := by
  intro args Of x hx
  simp only [F76cv2] at hx
  split at hx
  · rename_i i l set
    obtain ⟨b, hb, rfl⟩ := Option.map_eq_some_iff.1 (show (a i l set).map (fun b => (b, l, set)) = some x from hx)
    exact fits_spec (h [.dv (.int .i64) i, .el (.sl O3) l [], .el (.sl (.int .i64)) set []] [] b hb)
  · cases hx

end Go.Proofs.Ytbblnbolabpfmaa
