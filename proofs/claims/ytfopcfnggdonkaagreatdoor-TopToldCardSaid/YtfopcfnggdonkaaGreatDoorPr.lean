/-
 The periods of a border: what the iterator yields.
-/
import Derived.Test.YtfopcfnggdonkaaGreatDoorYD
import Derived.Test.YtfopcfnggdonkaaGreatDoorHp
import Derived.RangeFuncKeeps
import Derived.RangeFuncBound
import Derived.RangeFuncLeaves
import Derived.WalkKit
import Derived.OwnWalkIn
import Derived.TacticsInMore
import Derived.LoopNIn
import Derived.LoopIn
import Derived.Shelf.RegionOpen
import Derived.Lib.Strings
namespace Go.Proofs.YtfopcfnggdonkaaGreatDoor
open Go.Proofs.Tryz
open Go.RowKit
set_option linter.unusedVariables false
set_option linter.unusedSimpArgs false
attribute [local go_sem] Oper.semAt_some
def EN (s : List UInt8) : Nat -> Nat -> List Int
 | 0, _ => []
 | c + 1, p => cond (Lib.hasPrefix s (s.drop p)) ((p : Int) :: EN s c (p + 1)) (EN s c (p + 1))
def J8 (s : List UInt8) : List Int := EN s s.length 1
theorem awY (s : List UInt8) (x : Nat) (hx : x <= s.length + 1) (W : World) : Calls prog 107 #[.string ⟨⟨s⟩⟩, .string ((⟨⟨s⟩⟩ : ByteArray).extract x s.length)] W fun e w' => w' = W /\ e = .returned (.bool (Lib.hasPrefix s (s.drop x))) := by
 refine (Tryz.strings_HasPrefix ⟨⟨s⟩⟩ ((⟨⟨s⟩⟩ : ByteArray).extract x s.length) W).mono fun e w' ⟨h1, h2⟩ => ⟨h2, ?_⟩
 rw [h1]
 have e1 : ((⟨⟨s⟩⟩ : ByteArray).extract x s.length).data.toList = s.drop x := by
  simp [ByteArray.data_extract, Array.toList_extract, List.extract, List.take_of_length_le]
 rw [e1]
def mpr (n : Nat) : Value -> Nat
 | .int _ i => (n + 2 - i).toNat
 | _ => 0
set_option maxRecDepth 100000 in
set_option maxHeartbeats 40000000 in
theorem aCW (w : World) (S : Nat -> Prop) (s : List UInt8) (hs : s.length <= 1000) (bs os : Nat) (hS : S bs) (cs : w.cell? ⟨bs, os, none⟩ = some (.string ⟨⟨s⟩⟩)) : Yields prog 106 #[.pointer (some ⟨bs, os, none⟩)] S w tI (J8 s) := by
 intro l J Jx W M hW hJ hM hY hj
 refine callsIn_wide (n := 0) |>.1 ?_
 refine callsIn_of_wp func106 rfl trivial ?_ rfl
 simp only [Tryz.ntmps106, List.size_toArray, List.length_cons, List.length_nil, Nat.reduceAdd, Nat.reduceSub, Array.replicate_succ, Array.replicate_zero, List.push_toArray, List.append_toArray, List.nil_append, List.cons_append]
 have hJ0 := hJ
 have mixed : prog.follows .mixedOrders = true := wL
 gi_wp2
 gi_loopw [3] (fun p wr => ∃ (x : Nat) (pre : List Int) (M' : Nat -> Prop), p = .int .i64 x /\ 1 <= x /\ x <= s.length + 1 /\ J8 s = pre ++ EN s (s.length + 1 - x) x /\ J pre.length M' wr /\ wr.heap[bs]? = w.heap[bs]? /\ ¬ M' bs /\ W.heap.size <= wr.heap.size)
  (fun p _ => mpr s.length p)
 case atStart => exact ⟨1, [], M, rfl, Nat.le_refl _, by omega, by simp [J8], hj, (hW bs hS).2.1, (hW bs hS).2.2, Nat.le_refl _⟩
 case round =>
  obtain ⟨x, pre, M', rfl, hx1, hxs, hxp, hj', hb, hm, hz⟩ := hrel
  have cw : wr.cell? ⟨bs, os, none⟩ = some (.string ⟨⟨s⟩⟩) := (World.cell?_of_block (a := ⟨bs, os, none⟩) hb).trans cs
  by_cases hlt : x <= s.length
  ·have hlt' : decide ((x : Int) <= (s.length : Int)) = true := decide_eq_true (by omega)
   have hpre := fun W1 : World => callsIn_wide (n := 0) |>.2 (awY s x hxs W1)
   have hstep : EN s (s.length + 1 - x) x = cond (Lib.hasPrefix s (s.drop x)) ((x : Int) :: EN s (s.length + 1 - (x + 1)) (x + 1)) (EN s (s.length + 1 - (x + 1)) (x + 1)) := by
    rw [show s.length + 1 - x = (s.length + 1 - (x + 1)) + 1 by omega]; rfl
   cases hp : Lib.hasPrefix s (s.drop x) with
   | false =>
    rw [hp, cond_false] at hstep
    rw [hstep] at hxp
    simp only [hp] at hpre
    clear hW hJ hM hY hstep hp cs
    gi_wp2_with fail
    refine wpIn_region_any mixed ?_
    repeat' first
     | exact AllReadyIn.nil
     | (refine AllReadyIn.cons rfl (fun K hK => ?_) ?_; go_simp; first
       | (refine hK _ _ ?_; clear hK K)
       | (refine ⟨fun _ _ => trivial, ?_⟩; refine hK _ _ ?_; clear hK K)
       | (refine ⟨trivial, rfl, ?_⟩; refine (hpre _).mono ?_; rintro e w' ⟨rfl, rfl⟩; go_simp; refine hK _ _ ?_; clear hK K)
      )
     | refine wpAnyIn_ready (rs := [8]) (by decide +kernel) (by simp) ?_
     | refine wpAnyIn_ready (rs := [9]) (by decide +kernel) (by simp) ?_
     | refine wpAnyIn_ready (rs := [10]) (by decide +kernel) (by simp) ?_
     | refine wpAnyIn_ready (rs := [5]) (by decide +kernel) (by simp) ?_
     | refine wpAnyIn_ready (rs := [7]) (by decide +kernel) (by simp) ?_
     | refine wpAnyIn_ready (rs := [6]) (by decide +kernel) (by simp) ?_
     | refine wpAnyIn_ready (rs := [6, 7]) (by decide +kernel) (by simp) ?_
     | refine wpAnyIn_ready (rs := [4]) (by decide +kernel) (by simp) ?_
     | refine wpAnyIn_ready (rs := [3]) (by decide +kernel) (by simp) ?_
     | refine wpAnyIn_ready (rs := [2]) (by decide +kernel) (by simp) ?_
     | refine wpAnyIn_ready (rs := [0, 1, 2]) (by decide +kernel) (by simp) ?_
     | refine wpAnyIn_ready (rs := [1, 2]) (by decide +kernel) (by simp) ?_
     | refine wpAnyIn_ready (rs := [1]) (by decide +kernel) (by simp) ?_
     | refine wpAnyIn_ready (rs := [0, 2]) (by decide +kernel) (by simp) ?_
     | refine wpAnyIn_ready (rs := [0, 3]) (by decide +kernel) (by simp) ?_
     | refine wpAnyIn_ready (rs := [0]) (by decide +kernel) (by simp) ?_
     | refine wpAnyIn_ready (rs := [0, 1]) (by decide +kernel) (by simp) ?_
     | (refine wpAnyIn_done (by kernel_rfl) ?_ _; gi_wp2; first
       | exact ⟨⟨x + 1, pre, M', by simp, by omega, by omega, hxp, hJ0 _ _ _ _ hj' ((Below.refl _ _).drew), hb, hm, hz⟩, by simp only [mpr]; omega⟩
      )
   | true =>
    rw [hp, cond_true] at hstep
    rw [hstep] at hxp
    simp only [hp] at hpre
    have hxk : (J8 s)[pre.length]? = some (x : Int) := by rw [hxp]; simp
    have hbz : bs < wr.heap.size := Nat.lt_of_lt_of_le (hW bs hS).1 hz
    have Ue := hY pre.length M' wr.drew (.int .i64 x) (x : Int) (hJ _ _ _ _ hj' ((Below.refl _ _).drew)) hxk ((DT.val_one (t := tI) rfl).2 rfl) 0
    have hpp : J8 s = (pre ++ [(x : Int)]) ++ EN s (s.length + 1 - (x + 1)) (x + 1) := by rw [hxp]; simp
    obtain ⟨fn, tmps, assign, body, hy, hR⟩ := Ue
    clear hW hJ hM hY hstep hp cs hxp hxk
    gi_wp2_with fail
    refine wpIn_region_any mixed ?_
    repeat' first
     | exact AllReadyIn.nil
     | (refine AllReadyIn.cons rfl (fun K hK => ?_) ?_; go_simp; first
       | (refine hK _ _ ?_; clear hK K)
       | (refine ⟨trivial, rfl, ?_⟩; refine (hpre _).mono ?_; rintro e w' ⟨rfl, rfl⟩; go_simp; refine hK _ _ ?_; clear hK K)
       | (refine ⟨rfl, ?_⟩; refine hR.mono ?_; rintro e W3 (⟨rfl, M3, j3, z3, b3, m3⟩ | ⟨rfl, hx3⟩) <;> (refine hK _ _ ?_; clear hK K))
      )
     | refine wpAnyIn_ready (rs := [8]) (by decide +kernel) (by simp) ?_
     | refine wpAnyIn_ready (rs := [9]) (by decide +kernel) (by simp) ?_
     | refine wpAnyIn_ready (rs := [10]) (by decide +kernel) (by simp) ?_
     | refine wpAnyIn_ready (rs := [5]) (by decide +kernel) (by simp) ?_
     | refine wpAnyIn_ready (rs := [7]) (by decide +kernel) (by simp) ?_
     | refine wpAnyIn_ready (rs := [6]) (by decide +kernel) (by simp) ?_
     | refine wpAnyIn_ready (rs := [6, 7]) (by decide +kernel) (by simp) ?_
     | refine wpAnyIn_ready (rs := [4]) (by decide +kernel) (by simp) ?_
     | refine wpAnyIn_ready (rs := [3]) (by decide +kernel) (by simp) ?_
     | refine wpAnyIn_ready (rs := [2]) (by decide +kernel) (by simp) ?_
     | refine wpAnyIn_ready (rs := [0, 1, 2]) (by decide +kernel) (by simp) ?_
     | refine wpAnyIn_ready (rs := [1, 2]) (by decide +kernel) (by simp) ?_
     | refine wpAnyIn_ready (rs := [1]) (by decide +kernel) (by simp) ?_
     | refine wpAnyIn_ready (rs := [0, 2]) (by decide +kernel) (by simp) ?_
     | refine wpAnyIn_ready (rs := [0, 3]) (by decide +kernel) (by simp) ?_
     | refine wpAnyIn_ready (rs := [0]) (by decide +kernel) (by simp) ?_
     | refine wpAnyIn_ready (rs := [0, 1]) (by decide +kernel) (by simp) ?_
     | (refine wpAnyIn_done (by kernel_rfl) ?_ _; gi_wp2; first
       | exact ⟨⟨x + 1, pre ++ [(x : Int)], M3, by simp, by omega, by omega, hpp, by simpa using j3, (b3 bs hbz hm).trans hb, (fun q => (m3 bs q).elim hm fun q2 => by have : wr.heap.size <= bs := q2; omega), Nat.le_trans hz z3⟩, by simp only [mpr]; omega⟩
       | exact bodyPost_ret (v := .tuple #[]) (by simp [results, Tryz.results106, go_sem]) rfl ⟨⟨_, rfl⟩, .inr hx3⟩
      )
  ·obtain rfl : x = s.length + 1 := by omega
   have hlt' : decide (((s.length + 1 : Nat) : Int) <= (s.length : Int)) = false := decide_eq_false (by omega)
   have hxe : pre = J8 s := by rw [hxp]; simp [EN]
   subst hxe
   clear hW hJ hM hY hxp
   gi_wp2
   go_end0
   exact ⟨⟨_, rfl⟩, .inl ⟨M', hj'⟩⟩
def Yo (fv : TV) : Option (Bool × ((t : DT) × List t.den)) :=
 match fv with
 | .fn 106 0 1 f => match f 0 with
  | .el .str s [] => some (decide (List.length s <= 1000), ⟨tI, J8 s⟩)
  | _ => none
 | _ => none
theorem aCV : IM prog Yo := fun fv t xs h => by
 unfold Yo at h
 split at h
 ·rename_i f
  split at h
  ·rename_i s hs
   simp only [aS, bJ, Sigma.mk.injEq, fH] at h
   obtain ⟨hcond, rfl, h⟩ := h
   obtain rfl := eq_of_heq h
   refine ⟨106, 1, f, rfl, fun args w => ?_, fun w G π O lb hlb hcap hG => ?_⟩
   ·have hname : (Tryz.f106.name == "runtime.NumGoroutine") = false := by kernel_rfl
    have hname' : ¬ Tryz.f106.name = "runtime.NumGoroutine" := by simpa using hname
    have hb : Tryz.f106.body.isSome = true := by kernel_rfl
    have hf := func106
    simp [callFunc, hf, hname']
    intro h
    rw [h] at hb
    cases hb
   ·obtain ⟨u0, e0, v0⟩ := hcap 0 (by decide)
    rw [hs] at v0
    simp only [VR] at v0
    obtain ⟨b0, o0, L0, l0, _, rfl, g0, c0⟩ := v0
    obtain rfl := aC l0
    obtain ⟨x0, d0, _, f0⟩ := c0 0 (by decide)
    have hx0 : x0 = .string ⟨⟨s⟩⟩ := f0
    subst hx0
    have hl : lb = #[.pointer (some ⟨b0, o0, none⟩)] := by
     apply Array.ext (by simpa using hlb)
     intro k h1 h2
     have e : lb[k]? = some lb[k] := Array.getElem?_eq_getElem h1
     match k, h2 with
     | 0, _ => rw [e0] at e; exact (aC e).symm
    rw [hl]
    exact ⟨fun b => b = b0, fun b hb => hb ▸ g0, aCW w _ s hcond b0 o0 rfl d0⟩
  ·cases h
 ·cases h
end Go.Proofs.YtfopcfnggdonkaaGreatDoor
