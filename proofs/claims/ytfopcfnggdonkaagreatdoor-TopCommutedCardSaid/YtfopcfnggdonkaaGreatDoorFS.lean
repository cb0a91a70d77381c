/-
 strings.Map with a mapping that keeps two letters: a contract, of the kit's shelf.
-/
import Derived.Test.YtfopcfnggdonkaaGreatDoorLLM
import Derived.Test.YtfopcfnggdonkaaGreatDoorP0
import Derived.Test.YtfopcfnggdonkaaGreatDoorShelf
import Derived.Lib.MapLaws
namespace Go.Proofs.YtfopcfnggdonkaaGreatDoor
open Go.Proofs.Tryz
open Go.RowKit
set_option linter.unusedVariables false
def fo (x y c : Int) : Int := cond (decide (c = 97 + x)) c (cond (decide (c = 97 + y)) c (-1))
def only2 (x y : Int) (b : UInt8) : Bool := decide ((b.toNat : Int) = 97 + x) || decide ((b.toNat : Int) = 97 + y)
theorem arA {b : UInt8} {r : List UInt8} (h : b.toNat < 128) : Lib.decodeL (b :: r) = (b.toNat, 1) := by
 unfold Lib.decodeL
 exact decode_ascii ⟨(b :: r).toArray⟩ 0 (by show 0 < (b :: r).toArray.size; simp) h
theorem ae4 (x y : Int) : ∀ l : List UInt8, oG l = true -> Lib.mapD (fo x y) l = l.filter (only2 x y)
 | [], _ => rfl
 | b :: r, h => by
  simp only [oG, List.all_cons, Bool.and_eq_true, decide_eq_true_eq] at h
  rw [Lib.mapD_step _ _ (by simp), arA h.1]
  have ih := ae4 x y r h.2
  simp only [List.drop_succ_cons, List.drop_zero, ih]
  have e1 : Lib.encodeRune (b.toNat : Int) = [b] := by
   unfold Lib.encodeRune
   rw [Lib.encodeRuneZ_one (by omega) (by omega)]
   simp
  by_cases hx : (b.toNat : Int) = 97 + x
  ·have e2 : fo x y b.toNat = b.toNat := by simp [fo, hx]
   rw [e2, if_pos (by omega), e1]
   simp [only2, hx]
  ·by_cases hy : (b.toNat : Int) = 97 + y
   ·have e2 : fo x y b.toNat = b.toNat := by simp [fo, hy]
    rw [e2, if_pos (by omega), e1]
    simp [only2, hy]
   ·have e2 : fo x y b.toNat = -1 := by simp [fo, hx, hy]
    rw [e2, if_neg (by omega)]
    simp [only2, hx, hy]
def ML (c x y : Int) : Option Int := if 0 <= x /\ x < 1000 /\ 0 <= y /\ y < 1000 then some (fo x y c) else none
theorem akK {z : Int} (h0 : -1000000 <= z) (h1 : z <= 1000000) : IntKind.wrap .i32 z = z := by
 simp [IntKind.wrap, IntKind.bits, IntKind.signed]; omega
theorem an6 : aC prog 54 (Ia ML) := aAT ML fun c x y r h => ⟨0, by
 unfold ML at h
 split at h
 ·rename_i q
  obtain rfl := Option.some.inj h
  unfold Rq
  rw [yG (by omega) (by omega), yG (by omega) (by omega), akK (by omega) (by omega), akK (by omega) (by omega)]
  unfold fo
  have e : ∀ p : Int, (c == p) = decide (c = p) := fun p => rfl
  rw [e, e]
  cases decide (c = 97 + x) with
  | true => rfl
  | false =>
   simp only [cond_false]
   cases decide (c = 97 + y) <;> rfl
 ·cases h⟩
def qA (x y : Int) (s : List UInt8) : Option (List UInt8) := if (0 <= x /\ x < 1000 /\ 0 <= y /\ y < 1000) /\ oG s = true /\ s.length < 1000000 then some (s.filter (only2 x y)) else none
theorem at7 : FD 0 = some ⟨.arr 256 (.int .u8), (List.range 256).map fun c => (Lib.firstT c : Int)⟩ := by kernel_rfl
theorem auB : FD 1 = some ⟨.arr 16 (.pair (.int .u8) (.pair (.int .u8) .unit)), (List.range 16).map fun i => ((Lib.accLo i : Int), (Lib.accHi i : Int), ())⟩ := by kernel_rfl
theorem aC2 {w : World} {G : Nat -> Prop} (h : nZ w G) : Lib.Utf8Tabs 0 1 w := by
 obtain ⟨b, o, L, a1, a2, a3, a4, a5⟩ := h 0 _ _ at7
 rw [DT.at_nil] at a1; obtain rfl := Option.some.inj a1
 simp only [Value.pointer.injEq, Option.some.injEq, Addr.mk.injEq, and_true, Nat.add_zero] at a3
 obtain ⟨rfl, rfl⟩ := a3
 obtain ⟨b, o, L, b1, b2, b3, b4, b5⟩ := h 1 _ _ auB
 rw [DT.at_nil] at b1; obtain rfl := Option.some.inj b1
 simp only [Value.pointer.injEq, Option.some.injEq, Addr.mk.injEq, and_true, Nat.add_zero] at b3
 obtain ⟨rfl, rfl⟩ := b3
 refine ⟨fun c hc => ?_, fun i hi => ⟨?_, ?_⟩⟩
 ·obtain ⟨u, c1, c2, c3⟩ := a5 c hc
  rw [Nat.zero_add] at c1
  rw [c1]
  have c4 : u = .int .u8 (((List.range 256).map fun c => (Lib.firstT c : Int)).getD (c / 1) 0) := c3
  rw [c4, Nat.div_one]
  simp [List.getD, hc]
 ·obtain ⟨u, c1, c2, c3⟩ := b5 (2 * i) (by show 2 * i < 32; omega)
  rw [Nat.zero_add] at c1
  rw [c1]
  have e1 : 2 * i / 2 = i := by omega
  have e2 : 2 * i % 2 = 0 := by omega
  have c4 : (DT.pair (.int .u8) (.pair (.int .u8) .unit)).cell (((List.range 16).map fun i => ((Lib.accLo i : Int), (Lib.accHi i : Int), ())).getD (2 * i / 2) (0, 0, ())) (2 * i % 2) w G u := c3
  rw [e1, e2] at c4
  have c5 : u = .int .u8 _ := c4
  rw [c5]
  simp [List.getD, hi]
 ·obtain ⟨u, c1, c2, c3⟩ := b5 (2 * i + 1) (by show 2 * i + 1 < 32; omega)
  rw [Nat.zero_add] at c1
  rw [c1]
  have e1 : (2 * i + 1) / 2 = i := by omega
  have e2 : (2 * i + 1) % 2 = 1 := by omega
  have c4 : (DT.pair (.int .u8) (.pair (.int .u8) .unit)).cell (((List.range 16).map fun i => ((Lib.accLo i : Int), (Lib.accHi i : Int), ())).getD ((2 * i + 1) / 2) (0, 0, ())) ((2 * i + 1) % 2) w G u := c3
  rw [e1, e2] at c4
  have c5 : u = .int .u8 _ := c4
  rw [c5]
  simp [List.getD, hi]
theorem asR (xs : Array Value) (w : World) : (callFunc 55 xs).run prog w = .ok (.enter 55 xs) w := enters_of func55 (by kernel_rfl) rfl xs w
theorem asQ (xs : Array Value) (w : World) : (callFunc 54 xs).run prog w = .ok (.enter 54 xs) w := enters_of func54 (by kernel_rfl) rfl xs w
theorem aAU : aC prog 55 (UD qA) := by
 intro args Of r hx
 simp only [UD] at hx
 split at hx
 ·rename_i KH s1 x y uP
  have hc0 := congrArg (fun c : List (List TV) => c.getD 0 []) uP
  unfold qA at hx
  split at hx
  ·rename_i hq
   obtain ⟨⟨x0, x1, y0, y1⟩, hasc, hlen⟩ := hq
   obtain rfl := Option.some.inj hx
   refine jM.FV (args := [.fn 54 0 2 fun i => ([.el (.int .i64) x [], .el (.int .i64) y []] : List TV).getD i .any, .dv (.str) s1]) (O := []) ⟨TV.IP hc0, TV.sG _, trivial⟩ trivial ?_
   refine ⟨asR, fun w F π vs hvl hF hfr hv hgl => ?_⟩
   obtain ⟨v0, v1, rfl⟩ : ∃ v0 v1, vs = [v0, v1] := by
    match vs, hvl with
    | [v0, v1], _ => exact ⟨v0, v1, rfl⟩
   have hv0 := hv 0 _ _ rfl rfl
   have hv1 := hv 1 _ _ rfl rfl
   obtain rfl : v1 = .string ⟨⟨s1⟩⟩ := (DT.val_one (t := .str) rfl).1 hv1
   obtain ⟨fs, cs, rfl, hfs, hcs, _, hcap⟩ := hv0
   obtain rfl : fs = #[] := Array.eq_empty_of_size_eq_zero hfs
   have none : ∀ {π : Nat -> Pl} {id g : Nat}, ¬ Own π (aA []) id g := fun ⟨o, ho, _⟩ => by cases ho
   refine (Tryz.strings_Map_grows 54 cs asQ (fo x y) ⟨⟨s1⟩⟩ w (by show s1.length < _; omega) (fun W c hc hb => ?_) (fun c hc => ?_) (aC2 hgl)).mono fun e w' ⟨he, hb⟩ => ?_
   ·have fz : eH w (Gz F w π (aA [])) W (Gz F W π (aA [])) := fun b hb' => ⟨⟨hb'.1, Nat.lt_of_lt_of_le hb'.2.1 hb.size, fun id => none⟩, hb.block b hb'.2.1⟩
    have hk := an6 [.dv (.int .i32) (c : Int), .el (.int .i64) x [], .el (.int .i64) y []] [] (fo x y c) (by
     show ML c x y = _
     unfold ML
     rw [if_pos ⟨x0, x1, y0, y1⟩]
     rfl)
    obtain ⟨c0, c1, rfl⟩ : ∃ c0 c1, cs = #[c0, c1] := by
     match cs, hcs with
     | ⟨[c0, c1]⟩, _ => exact ⟨c0, c1, rfl⟩
    have k0 := hcap 0 (by omega)
    have k1 := hcap 1 (by omega)
    refine (hk.calls W F π [.int .i32 c, c0, c1] rfl (fun b hb' => Nat.lt_of_lt_of_le (hF b hb') hb.size) ⟨fun id o ho => (by cases ho), fun i j g hi => absurd hi none, fun id g hi => absurd hi none⟩ (fun i z v hz hv' => ?_) (hgl.mono fz)).mono fun e w2 ⟨r2, v2, O2, dU, e1, ⟨e2, e3⟩, e4, e5, e6, e7, e8⟩ => ?_
    ·match i with
     | 0 =>
      simp only [List.getElem?_cons_zero, Option.some.injEq] at hz hv'
      subst hz; subst hv'
      exact (DT.val_one (t := .int .i32) rfl).2 rfl
     | 1 =>
      simp only [List.getElem?_cons_succ, List.getElem?_cons_zero, Option.some.injEq] at hz hv'
      subst hz; subst hv'
      obtain ⟨u, u1, u2⟩ := k0
      obtain rfl : c0 = u := by simpa using u1
      exact VR.KG (fun _ => True) fz (fun id o _ ho => by cases ho) (TV.Vt _) u2
     | 2 =>
      simp only [List.getElem?_cons_succ, List.getElem?_cons_zero, Option.some.injEq] at hz hv'
      subst hz; subst hv'
      obtain ⟨u, u1, u2⟩ := k1
      obtain rfl : c1 = u := by simpa using u1
      exact VR.KG (fun _ => True) fz (fun id o _ ho => by cases ho) (TV.Vt _) u2
     | n + 3 => simp at hz
    ·subst e1
     rw [e2] at e5
     obtain rfl : v2 = .int .i32 (fo x y c) := (DT.val_one (t := .int .i32) rfl).1 e5
     refine ⟨rfl, ⟨e8.os, e8.tape, e8.output, e8.size, fun k hk' => ?_⟩⟩
     have := e8.block k (.inl ⟨fun id => none, hk'⟩) (by simp)
     rw [this, Cx.blk, if_neg (by simp)]
   ·unfold fo
    cases decide ((c : Int) = 97 + x) with
    | true => simp only [cond_true]; omega
    | false =>
     simp only [cond_false]
     cases decide ((c : Int) = 97 + y) <;> simp only [cond_true, cond_false] <;> omega
   ·subst he
    rw [show (⟨⟨s1⟩⟩ : ByteArray).data.toList = s1 from rfl, ae4 x y s1 hasc]
    exact ⟨.dv .str (s1.filter (only2 x y)), _, [], π, rfl, ⟨rfl, rfl⟩, ⟨fun id o ho => (by cases ho), fun i j g hi => absurd hi none, fun id g hi => absurd hi none⟩, (DT.val_one (t := .str) rfl).2 rfl, fun id o ho => (by cases ho), fun id g hi => absurd hi none,
     ⟨hb.os, hb.tape, hb.output, hb.size, fun b hb' _ => (by
      rcases hb' with hb' | hb' | hb'
      ·rw [Cx.blk, if_neg (by simp)]; exact hb.block b hb'.2
      ·cases hb'
      ·cases hb'), fun b hb' => (by cases hb')⟩⟩
  ·cases hx
 ·cases hx
end Go.Proofs.YtfopcfnggdonkaaGreatDoor
