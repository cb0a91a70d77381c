/-
 The search for chains: first as a contract.
-/
import Derived.Test.YtfopcfnggdonkaaGreatDoorF3
import Derived.Test.YtfopcfnggdonkaaGreatDoorWFC
import Derived.Test.YtfopcfnggdonkaaGreatDoorP0
namespace Go.Proofs.YtfopcfnggdonkaaGreatDoor
open Go.Proofs.Tryz
open Go.RowKit
set_option linter.unusedVariables false
def Gd (G : Nat -> Prop) (W : World) (b : Nat) : Prop := G b /\ b < W.heap.size
def GM : Nat -> Pl := fun _ => ⟨none, 0, 0, iU⟩
theorem avK {G : Nat -> Prop} {W : World} {b : Nat} : Gz (Gd G W) W GM (aA []) b ↔ Gd G W b :=
 ⟨fun h => h.1, fun h => ⟨h, h.2, fun id ⟨o, ho, _⟩ => by cases ho⟩⟩
theorem avC {w w' : World} {G G' : Nat -> Prop} (h : wF w G) (hb : Below w.heap.size w w') (hg : ∀ b, G b -> b < w.heap.size /\ G' b) : wF w' G' :=
 h.mono fun b hb' => ⟨(hg b hb').2, hb.block b (hg b hb').1⟩
theorem Oq {f : Nat} {c : bT} {args : List TV} {x : c.ρ} (h : aF prog f c) (ha : c.ans args [] = some x) {G : Nat -> Prop} {W : World} (hgl : wF W (Gd G W)) {vs : List Value} (hl : vs.length = args.length)
  (hv : ∀ (i : Nat) (y : TV) (v : Value), args[i]? = some y -> vs[i]? = some v -> VR W (Gd G W) GM (aA []) y v) :
  Calls prog f vs.toArray W fun e W' => Below W.heap.size W W' /\ ∃ v aJ, e = .returned v /\ Frame (fun b => Gd G W b \/ W.heap.size <= b) W' aJ (c.cZ args [] x) /\
   VR W' (Gz (fun b => Gd G W b \/ W.heap.size <= b) W' aJ (aA (c.cZ args [] x))) aJ (aA (c.cZ args [] x)) (c.enc args [] x) v := by
 have hG : ∀ b, Gd G W b -> Gz (Gd G W) W GM (aA []) b := fun b hb => avK.2 hb
 have fz : fG W (Gd G W) W (Gz (Gd G W) W GM (aA [])) := fun b hb => ⟨hG b hb, rfl⟩
 have E : gK W (Gd G W) GM (aA []) W (Gz (Gd G W) W GM (aA [])) GM (aA []) := ⟨fz, fun id o ho => by cases ho⟩
 refine ((h args [] x ha).calls W (Gd G W) GM vs hl (fun b hb => hb.2) ⟨(fun id o ho => by cases ho), (fun i j g ⟨o, ho, _⟩ => by cases ho), (fun id g ⟨o, ho, _⟩ => by cases ho)⟩ (fun i y v h1 h2 => VR.lY E (hv i y v h1 h2)) (hgl.mono fz)).mono ?_
 rintro e W' ⟨r, v, O', aJ, rfl, ⟨rfl, rfl⟩, hfr, wM, _, _, hk⟩
 refine ⟨⟨hk.os, hk.tape, hk.output, hk.size, fun k hk' => ?_⟩, v, aJ, rfl, hfr, wM⟩
 have := hk.block k (.inl ⟨(fun id ⟨o, ho, _⟩ => by cases ho), hk'⟩) (by simp)
 rwa [Cx.blk, if_neg (by simp)] at this
theorem ac1 {G : Nat -> Prop} {L : List Int} {W : World} {v : Value} (h : jQ G L W v) : U6.val L W (Gd G W) v := by
 obtain ⟨b, o, cap, h1, h2, h3, h4, h5, h6, h7⟩ := h
 refine (DT.val_one (t := U6) rfl).2 ⟨_, cap, h1, h3, h4, (fun h => by cases h), trivial, fun _ => ⟨b, o, rfl, ⟨h5, h6⟩, fun i hi c hc => ?_⟩⟩
 obtain rfl : c = 0 := by simp [DT.size] at hc; omega
 exact ⟨_, (by have := h7 i hi; simpa [DT.size, DT.dflt] using this), rfl, rfl⟩
theorem ar8 {G : Nat -> Prop} {L : List Int} {W : World} {v : Value} (h : jQ G L W v) : (DT.fJ (.int .i64)).val (some L) W (Gd G W) v := by
 obtain ⟨b, o, cap, h1, h2, h3, h4, h5, h6, h7⟩ := h
 refine (DT.val_one (t := .fJ (.int .i64)) rfl).2 ⟨_, cap, h1, h3, h4, (fun h => by cases h), (fun h => by cases h), fun _ => ⟨b, o, rfl, ⟨h5, h6⟩, fun i hi c hc => ?_⟩⟩
 obtain rfl : c = 0 := by simp [DT.size] at hc; omega
 exact ⟨_, (by have := h7 i hi; simpa [DT.size, DT.dflt] using this), rfl, rfl⟩
theorem aAJ {G : Nat -> Prop} {L : List Int} {W : World} {v : Value} {G' : Nat -> Prop} (hg : ∀ b, G' b -> G b /\ b < W.heap.size) (hn : 0 < L.length) (h : (DT.fJ (.int .i64)).val (some L) W G' v) : jQ G L W v := by
 obtain ⟨p, cap, h1, h2, h3, h4, _, h6⟩ := (DT.val_one (t := .fJ (.int .i64)) rfl).1 h
 obtain ⟨b, o, rfl, q1, q2⟩ := h6 hn
 refine ⟨b, o, cap, h1, hn, h2, h3, (hg b q1).1, (hg b q1).2, fun i hi => ?_⟩
 obtain ⟨u, a1, _, a3⟩ := q2 i hi 0 (by simp [DT.size])
 have e : u = .int .i64 (L.getD i 0) := a3
 rw [<- e]
 simpa [DT.size] using a1
theorem acG {cs : Array Value} {x y : Value} (h : cs.size = 2) (h0 : cs[0]? = some x) (h1 : cs[1]? = some y) : cs = #[x, y] := by
 apply Array.ext (by simpa using h)
 intro k q1 q2
 have e : cs[k]? = some cs[k] := Array.getElem?_eq_getElem q1
 match k, q2 with
 | 0, _ => rw [h0] at e; exact (Option.some.inj e).symm
 | 1, _ => rw [h1] at e; exact (Option.some.inj e).symm
theorem aqY {cs : Array Value} {x y z : Value} (h : cs.size = 3) (h0 : cs[0]? = some x) (h1 : cs[1]? = some y) (h2 : cs[2]? = some z) : cs = #[x, y, z] := by
 apply Array.ext (by simpa using h)
 intro k q1 q2
 have e : cs[k]? = some cs[k] := Array.getElem?_eq_getElem q1
 match k, q2 with
 | 0, _ => rw [h0] at e; exact (Option.some.inj e).symm
 | 1, _ => rw [h1] at e; exact (Option.some.inj e).symm
 | 2, _ => rw [h2] at e; exact (Option.some.inj e).symm
def Kd (G : Nat -> Prop) (s0 : Nat) (W : World) : Prop := s0 <= W.heap.size /\ wF W (Gd G W)
section
variable (G : Nat -> Prop) (s0 : Nat) (hG : ∀ b, s0 <= b -> G b)
theorem Kd.below {W W' : World} (h : Kd G s0 W) (hb : Below W.heap.size W W') : Kd G s0 W' :=
 ⟨Nat.le_trans h.1 hb.size, avC h.2 hb fun b hb' => ⟨hb'.2, hb'.1, Nat.lt_of_lt_of_le hb'.2 hb.size⟩⟩
def Zu (L : List Int) (x : Int) : Option Bool := (VT L x).map (·.2)
theorem aHD (W : World) (L : List Int) (v : Value) (x : Int) (is : Bool) (hK : Kd G s0 W) (hv : jQ G L W v) (hw : Zu L x = some is) : Calls prog 166 #[v, .int .i64 x] W fun e W' => Below W.heap.size W W' /\ ∃ i j : Int, e = .returned (.tuple #[.agg #[.int .i64 i, .int .i64 j], .bool is]) := by
 obtain ⟨⟨ps, is'⟩, ha, rfl⟩ := Option.map_eq_some_iff.1 hw
 have ha' : (XG VT).ans [.dv U6 L, .dv tI x] [] = some (ps, is') := ha
 refine (Oq (vs := [v, .int .i64 x]) aoT ha' hK.2 rfl fun i y u h1 h2 => ?_).mono ?_
 ·match i, h1, h2 with
  | 0, h1, h2 => obtain rfl := Option.some.inj h1; obtain rfl := Option.some.inj h2; exact ac1 hv
  | 1, h1, h2 => obtain rfl := Option.some.inj h1; obtain rfl := Option.some.inj h2; exact (DT.val_one (t := tI) rfl).2 rfl
 ·rintro e W' ⟨hb, v', aJ, rfl, _, wM⟩
  refine ⟨hb, ?_⟩
  obtain ⟨us, rfl, u1, u2⟩ := wM
  obtain ⟨ua, a1, a2⟩ := u2 0 (by decide)
  obtain ⟨ub, b1, b2⟩ := u2 1 (by decide)
  have hub : ub = .bool is' := (DT.val_one (t := .bool) rfl).1 b2
  obtain ⟨cs, rfl, c1, c2⟩ := (DT.oG (t := .arr 2 tI) rfl).1 a2
  obtain ⟨x0, d0, _, f0⟩ := c2 0 (by decide)
  obtain ⟨x1, d1, _, f1⟩ := c2 1 (by decide)
  have e0 : x0 = .int .i64 _ := f0
  have e1 : x1 = .int .i64 _ := f1
  subst e0 e1 hub
  have hcs : cs = #[_, _] := acG c1 d0 d1
  have hus : us = #[.agg cs, .bool is'] := acG u1 a1 b1
  rw [hus, hcs]
  exact ⟨_, _, rfl⟩
theorem asG (sp : Option Addr) (sc : Nat) (h1 : sc <= maxLen) (h2 : sp = none -> sc = 0) (W : World) (x : Int) (hK : Kd G s0 W) : Calls prog 41 #[.slice sp 0 sc, .int .i64 x] W fun e W' => Below W.heap.size W W' /\ e = .returned (.bool false) := by
 have ha' : (yO Lj).ans [.dv U6 [], .dv tI x] [] = some false := rfl
 refine (Oq (vs := [.slice sp 0 sc, .int .i64 x]) K41 ha' hK.2 rfl fun i y u q1 q2 => ?_).mono ?_
 ·match i, q1, q2 with
  | 0, q1, q2 =>
   obtain rfl := Option.some.inj q1; obtain rfl := Option.some.inj q2
   exact (DT.val_one (t := U6) rfl).2 ⟨sp, sc, rfl, Nat.zero_le _, h1, h2, trivial, fun h => by cases h⟩
  | 1, q1, q2 => obtain rfl := Option.some.inj q1; obtain rfl := Option.some.inj q2; exact (DT.val_one (t := tI) rfl).2 rfl
 ·rintro e W' ⟨hb, v', aJ, rfl, _, wM⟩
  exact ⟨hb, congrArg Ending.returned ((DT.val_one (t := .bool) rfl).1 wM)⟩
include hG in
theorem asB (W : World) (L : List Int) (v : Value) (hK : Kd G s0 W) (hv : jQ G L W v) (h20 : L.length <= 20) : Calls prog 43 #[v] W fun e W' => Below W.heap.size W W' /\ ∃ u, e = .returned u /\ jQ G L W' u := by
 have h0 : 0 < L.length := by obtain ⟨_, _, _, _, h, _⟩ := hv; exact h
 have ha' : (yP G7).ans [.dv (.fJ (.int .i64)) (some L)] [] = some (some L) := by
  show G7 (some L) = some (some L)
  simp only [G7, UN, Option.isNone_some, cond_false, Option.getD_some, List.nil_append]
  rw [wJ (ET (by omega) (by decide))]
  cases L with
  | nil => simp at h0
  | cons x r => simp; rfl
 refine (Oq (vs := [v]) K43 ha' hK.2 rfl fun i y u q1 q2 => ?_).mono ?_
 ·match i, q1, q2 with
  | 0, q1, q2 => obtain rfl := Option.some.inj q1; obtain rfl := Option.some.inj q2; exact ar8 hv
 ·rintro e W' ⟨hb, v', aJ, rfl, _, wM⟩
  refine ⟨hb, v', rfl, aAJ (fun b hb' => ⟨?_, hb'.2.1⟩) h0 wM⟩
  rcases hb'.1 with h | h
  ·exact h.1
  ·exact hG b (Nat.le_trans hK.1 h)
end
def VQ (s : Int × List Int × Bool × Unit) : Option (List Int) := cond (decide (1 <= s.1 /\ s.1 <= 46) && s.2.1.isEmpty && !s.2.2.1) (TB Zu s.1 8 0) none
theorem auJ (xs : Array Value) (w : World) : (callFunc 144 xs).run prog w = .ok (.enter 144 xs) w := Dq func144 (by kernel_rfl) (by kernel_rfl) xs w
theorem ap1 : aF prog 144 (XF VQ) := by
 intro args Of x hx
 simp only [XF] at hx
 split at hx
 ·rename_i s
  obtain ⟨n, sl, row, un⟩ := s
  simp only [VQ] at hx
  cases hc : (decide (1 <= n /\ n <= 46) && sl.isEmpty && !row) with
  | false => rw [hc] at hx; cases hx
  | true =>
   rw [hc, cond_true] at hx
   simp only [Bool.and_eq_true, decide_eq_true_eq, List.isEmpty_iff, Bool.not_eq_true'] at hc
   obtain ⟨⟨⟨hn1, JD⟩, rfl⟩, rfl⟩ := hc
   refine ⟨auJ, fun w F π vs hvl hF hfr hv hgl => ?_⟩
   obtain ⟨v, rfl⟩ : ∃ v, vs = [v] := by
    match vs, hvl with
    | [a], _ => exact ⟨a, rfl⟩
   obtain ⟨cs, rfl, c0, c1⟩ := (DT.oG (t := .pair (.int .i64) (.pair (.sl (.int .i64)) (.pair .bool .unit))) rfl).1 (hv 0 _ _ rfl rfl)
   obtain ⟨x0, a0, _, b0⟩ := c1 0 (by decide)
   obtain ⟨x1, a1, _, b1⟩ := c1 1 (by decide)
   obtain ⟨x2, a2, _, b2⟩ := c1 2 (by decide)
   have e0 : x0 = .int .i64 n := b0
   have e1 : (DT.sl (.int .i64)).cell [] 0 w _ x1 := b1
   have e2 : x2 = .bool false := b2
   obtain ⟨sp, sc, rfl, _, h1, h2, _, _⟩ := e1
   subst e0 e2
   have hcs : cs = #[.int .i64 n, .slice sp 0 sc, .bool false] := aqY c0 a0 a1 a2
   subst hcs
   have hK : Kd (fun b => F b \/ w.heap.size <= b) w.heap.size w := ⟨Nat.le_refl _, hgl.mono fun b hb => ⟨⟨.inl hb.1, hb.2.1⟩, rfl⟩⟩
   refine (auX (fun b => F b \/ w.heap.size <= b) (Kd (fun b => F b \/ w.heap.size <= b) w.heap.size) n sp sc (asB _ _ fun b h => .inr h) (fun W W' h hb => h.below _ _ hb) (fun W h b hb => .inr (Nat.le_trans h.1 hb)) Zu (aHD _ _) (asG _ _ sp sc h1 h2) hn1 JD w x hK hx).mono ?_
   rintro e W' ⟨hb, u, rfl, hu⟩
   refine ⟨_, u, _, π, rfl, ⟨rfl, rfl⟩, ⟨(fun id o ho => by cases ho), (fun i j g ⟨o, ho, _⟩ => by cases ho), (fun id g ⟨o, ho, _⟩ => by cases ho)⟩, ?_, (fun id o ho => by cases ho), (fun id g ⟨o, ho, _⟩ => by cases ho), ⟨hb.os, hb.tape, hb.output, hb.size, fun k hk _ => ?_, fun b hb => by cases hb⟩⟩
   ·exact DT.iD (fun b hb' => ⟨⟨hb'.1, hb'.2, (fun id ⟨o, ho, _⟩ => by cases ho)⟩, rfl⟩) (ac1 hu)
   ·rcases hk with hk | hk | hk
    ·rw [Cx.blk, if_neg (by simp)]; exact hb.block k hk.2
    ·cases hk
    ·cases hk
 ·cases hx
end Go.Proofs.YtfopcfnggdonkaaGreatDoor
