/-
  The law LettersBefore returns true and turns nothing that was there; the tables are what the program lays.
-/
import Derived.Test.YtmpbbkldopfkpaaDoorL15
import Derived.Test.YtmpbbkldopfkpaaDoorQM6
import Derived.Test.YtmpbbkldopfkpaaDoorWC0
import Derived.Test.YtmpbbkldopfkpaaDoorRows
import Derived.Test.YtmpbbkldopfkpaaDoorLD
import Derived.WalkKit
import Derived.ProofKit
import Derived.OpenShut
import Derived.ChangeOld
import Derived.Below
namespace Go.Proofs.YtmpbbkldopfkpaaDoor.lettersBefore
open Go.RowKit Go.ChangeShapes Go.WideShapes Go.ChangeAt
set_option linter.unusedVariables false
theorem wfU {z : Int} (h : DT.wf (.int .u8) z) : u8z z := by
  have := bounds_u8 (show (Lit.int .u8 z).wf = true from h)
  unfold u8z; omega
theorem wfLs {y : List Int} (h : DT.wf (.sl (.int .u8)) y) : u8l y := by
  obtain ⟨h1, h2⟩ := (show y.length ≤ maxLen ∧ ∀ j, j < y.length → (Lit.int .u8 (y.getD j 0)).wf = true from h)
  refine ⟨fun z hz => ?_, h1⟩
  obtain ⟨j, hj, rfl⟩ := List.getElem_of_mem hz
  have := wfU (show DT.wf (.int .u8) _ from h2 j hj)
  rw [List.getD_eq_getElem?_getD, List.getElem?_eq_getElem hj] at this
  exact this
theorem wfDq {y : Int × Int × Unit} (h : DT.wf (.pair (.int .u8) (.pair (.int .u8) .unit)) y) : u8z y.1 ∧ u8z y.2.1 := by
  obtain ⟨h1, h2, _⟩ := (show DT.wf (.int .u8) y.1 ∧ DT.wf (.int .u8) y.2.1 ∧ True from h)
  exact ⟨wfU h1, wfU h2⟩

theorem B20_of {o : Of} (h0 : errO o = 0) {s : Wd} (ls : s.length ≤ 14) (wsd : Ls o s) (i k : Int) : B20 o s i k = some (if ¬ (0 ≤ i ∧ i ≤ (s.length : Int) - 1) ∨ ¬ (0 ≤ k ∧ k ≤ (s.length : Int) - 1) then (false, 5) else if i = k then (false, 20) else (bfr (Do o) s i.toNat k.toNat, 0)) := by
  unfold B20
  rw [if_pos (errA_ok h0 fun l hl => by
    obtain rfl := List.mem_singleton.1 hl
    exact ⟨ls, wsd⟩)]

theorem B33_plc {o : Of} (h0 : errO o = 0) {s t : Wd} (ls : s.length ≤ 14) (wt : Ls o t) (hE : Eqv (Do o) t s) {p q : Nat} (hp : p < s.length) (hq : plc s t p = some q) :
    B33 t (((s.getD p 0).toNat : Nat) : Int) (((s.take p).count (s.getD p 0) : Nat) : Int) = some (q : Int) := by
  have lt := hE.length (Do_bnd h0)
  have hb := (s.getD p 0).toNat_lt
  have hc : (s.take p).count (s.getD p 0) ≤ 14 := Nat.le_trans List.count_le_length (by rw [List.length_take]; omega)
  unfold B33
  rw [if_pos ⟨wt.asc h0, by omega, ⟨by omega, by omega⟩, by omega, by omega⟩, ofNat_toNat, Int.toNat_natCast]
  have hq : atN (s.getD p 0) ((s.take p).count (s.getD p 0)) 0 t = some q := hq
  rw [hq]

theorem KB6 : FnOk Tryd.prog 6 (F6 fun d p one two => if u8z d.1 ∧ u8z d.2.1 ∧ u8l p ∧ u8z one ∧ u8z two then some true else none) := ok6 (some true) B20 B26 B27 B29 B31 B33 K11t kb20 kb26 kb27 kb29 kb31 kb33 _ fun d p one two r h => by
  split at h
  · rename_i hq
    obtain ⟨d1, d2, hp, ho, ht⟩ := hq
    obtain rfl := Option.some.inj h
    have hB26 := B26_of d1 d2
    generalize d.1.toNat = K at hB26
    generalize d.2.1.toNat = F at hB26
    have h0 := (off_ok (K := K) (F := F)).1
    have hB := Do_bnd h0
    have lp := pst_len (kOf K) p 7
    have wp := Ls_pst K F p 7
    have e1 := B27_of K F hp (m := 7) (by omega)
    generalize pst (kOf K) p 7 = s at lp wp e1
    generalize offN K F = o at h0 hB wp e1 hB26
    obtain ⟨M, hM, hnd, hmem⟩ := B29_of h0 (s := s) lp wp
    refine ⟨M.length + 1, ?_⟩
    unfold m6
    rw [hB26, Option.bind_some, show ((7 : Int)) = ((7 : Nat) : Int) from rfl, e1, Option.bind_some]
    by_cases hs2 : (s.length : Int) < 2
    · rw [decide_eq_true hs2, cond_true, B20_of h0 (by omega) wp, if_pos (.inr (by omega)), Option.bind_some]; rfl
    · obtain ⟨o0, o1⟩ := ho
      obtain ⟨t0, t1⟩ := ht
      obtain ⟨one, rfl⟩ : ∃ z : Nat, one = (z : Int) := ⟨one.toNat, by omega⟩
      obtain ⟨two, rfl⟩ : ∃ z : Nat, two = (z : Int) := ⟨two.toNat, by omega⟩
      have ei : Int.tmod (w64 (one : Int)) (s.length : Int) = ((one % s.length : Nat) : Int) := by
        rw [w64_nat (by omega), Int.tmod_eq_emod_of_nonneg (by omega)]; exact (Int.natCast_emod one s.length).symm
      have e2 : Int.tmod (w64 (two : Int)) (w64 ((s.length : Int) - 1)) = ((two % (s.length - 1) : Nat) : Int) := by
        rw [w64_nat (by omega), w64_eq (by omega) (by omega), Int.tmod_eq_emod_of_nonneg (by omega), show ((s.length : Int) - 1) = ((s.length - 1 : Nat) : Int) by omega]; exact (Int.natCast_emod two (s.length - 1)).symm
      have hil : one % s.length < s.length := Nat.mod_lt _ (by omega)
      have htl : two % (s.length - 1) < s.length - 1 := Nat.mod_lt _ (by omega)
      generalize one % s.length = i at ei hil
      generalize two % (s.length - 1) = u at e2 htl
      have ek : Int.tmod (w64 (w64 ((i : Int) + 1) + (u : Int))) (s.length : Int) = (((i + 1 + u) % s.length : Nat) : Int) := by
        rw [w64_succ (by omega), w64_eq (by omega) (by omega), Int.tmod_eq_emod_of_nonneg (by omega), show ((i + 1 : Nat) : Int) + (u : Int) = ((i + 1 + u : Nat) : Int) by omega]; exact (Int.natCast_emod (i + 1 + u) s.length).symm
      have hkl : (i + 1 + u) % s.length < s.length := Nat.mod_lt _ (by omega)
      have hne : i ≠ (i + 1 + u) % s.length := by
        by_cases hlt : i + 1 + u < s.length
        · rw [Nat.mod_eq_of_lt hlt]; omega
        · rw [Nat.mod_eq_sub_mod (by omega), Nat.mod_eq_of_lt (by omega)]; omega
      generalize (i + 1 + u) % s.length = k at ek hkl hne
      rw [decide_eq_false hs2, cond_false, chk_dec (by omega), chk_dec (by rw [w64_eq (by omega) (by omega)]; omega), chk_dec (by omega), hM, Option.bind_some]
      have hasc := wp.asc h0
      have main : ∀ (n : Nat) (al : Bool) (l : Mw), l.length < n → (∀ e ∈ l, Eqv (Do o) e.1 s) → ((al = true ∧ ∀ e ∈ l, ∀ i' k', plc s e.1 i = some i' → plc s e.1 k = some k' → i' < k') ↔ bfr (Do o) s i k = true) →
          l6a (some true) B20 B26 B27 B29 B31 B33 true (M.length + 1) (one : Int) (two : Int) o s n al l = some () := by
        intro n
        induction n with
        | zero => intro al l h; omega
        | succ n ih =>
          intro al l hl hE hI
          rw [l6a, ei, e2, ek]
          refine eachK_of l (fun hn => ?_) fun a e v he => ?_
          · subst hn
            have hbal : bfr (Do o) s i k = al := by
              rw [Bool.eq_iff_iff, ← hI]; simp
            rw [B20_of h0 (by omega) wp, if_neg (by omega), if_neg (by omega), Option.bind_some, B20_of h0 (by omega) wp, if_neg (by omega), if_pos rfl, Option.bind_some, B20_of h0 (by omega) wp, if_pos (.inr (by omega)), Option.bind_some, Int.toNat_natCast, Int.toNat_natCast, hbal]
            simp only [beq_self_eq_true, cond_true]
            rfl
          · have hee := hE e (by rw [he]; simp)
            have hE' : ∀ x ∈ a ++ v, Eqv (Do o) x.1 s := fun x hx => hE x (by
              rw [he]
              rcases List.mem_append.1 hx with h | h <;> simp [h])
            have hl' : (a ++ v).length < n := by
              rw [he] at hl
              simp only [List.length_append, List.length_cons] at hl ⊢
              omega
            cases al with
            | false =>
              rw [cond_false]
              exact ih false _ hl' hE' (by rw [← hI]; simp)
            | true =>
              have we : Ls o e.1 := wp.back h0 hee
              obtain ⟨i', hi'⟩ := plc_some hB hee hil
              obtain ⟨k', hk'⟩ := plc_some hB hee hkl
              have b31 : ∀ q : Nat, q < s.length → B31 (q : Int) s = some (((s.take q).count (s.getD q 0) : Nat) : Int) := fun q hq => by
                unfold B31; rw [if_pos ⟨by omega, by omega, by omega, hasc⟩, Int.toNat_natCast]
              rw [cond_true, chk_dec (by omega), b31 i hil, Option.bind_some, Int.toNat_natCast, B33_plc h0 (by omega) we hee hil hi', Option.bind_some, chk_dec (by omega), b31 k hkl, Option.bind_some, Int.toNat_natCast, B33_plc h0 (by omega) we hee hkl hk', Option.bind_some]
              refine ih _ _ hl' hE' ?_
              rw [← hI, decide_eq_true_iff]
              constructor
              · rintro ⟨h1, h2⟩
                refine ⟨rfl, fun x hx => ?_⟩
                rw [he] at hx
                rcases List.mem_append.1 hx with hx | hx
                · exact h2 x (List.mem_append.2 (.inl hx))
                · rcases List.mem_cons.1 hx with rfl | hx
                  · intro i2 k2 q1 q2
                    rw [hi'] at q1; rw [hk'] at q2
                    rw [← Option.some.inj q1, ← Option.some.inj q2]; omega
                  · exact h2 x (List.mem_append.2 (.inr hx))
              · rintro ⟨_, h2⟩
                refine ⟨?_, fun x hx => h2 x (by rw [he]; rcases List.mem_append.1 hx with h | h <;> simp [h])⟩
                have := h2 e (by rw [he]; simp) i' k' hi' hk'
                omega
      refine main (M.length + 1) true M (by omega) (fun e he => (hmem e.1).1 (List.mem_map.2 ⟨e, he, rfl⟩)) ⟨fun ⟨_, h⟩ => ?_, fun hb => ⟨rfl, fun e he i' k' q1 q2 => bfr_after hB ((hmem e.1).1 (List.mem_map.2 ⟨e, he, rfl⟩)) hkl hb q1 q2⟩⟩
      cases hb : bfr (Do o) s i k with
      | true => rfl
      | false =>
        obtain ⟨t, ht1, ht2⟩ := bfr_not hB hil hkl hne hb
        obtain ⟨e, he, rfl⟩ := List.mem_map.1 ((hmem t).2 ht1)
        obtain ⟨i', hi'⟩ := plc_some hB ht1 hil
        obtain ⟨k', hk'⟩ := plc_some hB ht1 hkl
        have a1 := h e he i' k' hi' hk'
        have a2 := ht2 i' k' hi' hk'
        omega
  · cases h

theorem K (y0 : Int × Int × Unit) (y1 : List Int) (y2 : Int) (y3 : Int) (_ : DT.wf (.pair (.int .u8) (.pair (.int .u8) .unit)) y0) (_ : DT.wf (.sl (.int .u8)) y1) (_ : DT.wf (.int .u8) y2) (_ : DT.wf (.int .u8) y3) : FnOk Tryd.prog 6 (F6 (fun d p one two => if u8z d.1 ∧ u8z d.2.1 ∧ u8l p ∧ u8z one ∧ u8z two then some true else none)) := KB6

set_option maxRecDepth 100000 in
theorem walk (w : World) (vs : List Value) (hgl : GlbOk w (fun b => b < w.heap.size)) (h : ArgsOk w [.pair (.int .u8) (.pair (.int .u8) .unit), .sl (.int .u8), .int .u8, .int .u8] vs) : Calls Tryd.prog 6 vs.toArray w fun e w' => e = .returned (.bool true) ∧ Below w.heap.size w w' := by
  obtain ⟨v0, vs0, y0, rfl, w0, h0, k0⟩ := ArgsOk.cons h
  obtain ⟨v1, vs1, y1, rfl, w1, h1, k1⟩ := ArgsOk.cons k0
  obtain ⟨v2, vs2, y2, rfl, w2, h2, k2⟩ := ArgsOk.cons k1
  obtain ⟨v3, vs3, y3, rfl, w3, h3, k3⟩ := ArgsOk.cons k2
  obtain rfl := ArgsOk.nil k3
  exact walkAll (K y0 y1 y2 y3 w0 w1 w2 w3) (xs := [.dv (.pair (.int .u8) (.pair (.int .u8) .unit)) y0, .dv (.sl (.int .u8)) y1, .dv (.int .u8) y2, .dv (.int .u8) y3]) (r := true) (if_pos ⟨(wfDq w0).1, (wfDq w0).2, wfLs w1, wfU w2, wfU w3⟩) rfl (HoldsAll.cons h0 (HoldsAll.cons h1 (HoldsAll.cons h2 (HoldsAll.cons h3 HoldsAll.nil)))) hgl

set_option maxRecDepth 100000 in
theorem lifted (os : Os) (started : os.Started) (H : Type) (enc : TypeId × Value → H) :
    ReturnsInHanded {} Tryd.checked os 6 .any (fun w args => (Rows.lettersBeforeSpec.pre enc Tryd.prog Tryd.f6 [] false w args ∧ laidMetH Tryd.prog laidL w) ∧ sizedMet enc Tryd.prog Tryd.f6 (OpenSpec.ofChange Rows.lettersBeforeSpec) false w args) (Rows.lettersBeforeSpec.post enc Tryd.prog Tryd.f6 false true false false) :=
  lawShellT (fn := Tryd.f6) (s := Rows.lettersBeforeSpec) (tb := 4) [.pair (.int .u8) (.pair (.int .u8) .unit), .sl (.int .u8), .int .u8, .int .u8] Tryd.func6 (by kernel_rfl) (by kernel_rfl) (by kernel_rfl) Tryd.underlying4 (by kernel_rfl) os started H enc []
    (fun ds hl => by
      match ds, hl with
      | [d0, d1, d2, d3], _ => rfl)
    (ChangeSpec.witness_shaped (enc := enc) (C := Tryd.checked) (os := os) (X := fun w _ => laidMetH Tryd.prog laidL w) false (laidWorld os) #[.agg #[.int .u8 0, .int .u8 0], .slice none 0 0, .int .u8 0, .int .u8 0] 8 rfl (World.shaped_of_RefB (by kernel_rfl) (by kernel_rfl)) (by kernel_rfl) (by kernel_rfl) (by kernel_rfl) (laidWorld_met os _)) walk

theorem over : Rows.LettersBeforeSaid :=
  OpenClaim.holds_of_wide 6 Tryd.f6 rfl rfl rfl rfl rfl rfl rfl ⟨rfl, rfl, rfl, rfl, rfl⟩ rfl rfl rfl rfl rfl (by kernel_rfl) Tryd.func6 (by kernel_rfl)
    (of_decide_eq_true (by kernel_rfl)) (by unfold Func.isWrapper; first | (rw [if_pos (by decide +kernel)]; kernel_rfl) | (rw [if_neg (by decide +kernel)]; exact ⟨rfl, rfl⟩))
    (fun os started H enc _ => lifted os started H enc)

set_option maxRecDepth 100000 in
/-- THE STATEMENT. -/
theorem proved : Rows.LettersBeforeCardSaid :=
  Claim7.holds_tied_plain_at .later [] [.data, .data, .data, .pinned] true (true, "319dfa66b581b5b6d08f6f2fb949c4fc49c9104c5b2ccc686a739ed36fa85254") false
    over (fun _ h => by cases h) (by kernel_rfl) (fun _ h => by cases h) lettersBefore_row_tie rfl ⟨rfl, rfl⟩ mainIs0 rfl
    (fun f fn hf hfn => by
      obtain rfl : f = 6 := Option.some.inj ((show Tryd.prog.funcNamed "tusche/tuschelaw10.LettersBefore" = some 6 by kernel_rfl).symm.trans hf) |>.symm
      obtain rfl : fn = Tryd.f6 := (Option.some.inj (Tryd.func6.symm.trans hfn)).symm
      exact ⟨by kernel_rfl, fun j t ht => by
        rw [Tryd.params6] at ht
        have hall : (#[48, 50, 5, 5] : Array TypeId).toList.all (fun t => !Tryd.pinned.checked.prog.wantsStandIn t) = true := by kernel_rfl
        have := List.all_eq_true.1 hall t (Array.mem_toList_iff.2 (Array.mem_of_getElem? ht))
        simpa using this⟩)
    (by kernel_rfl)

end Go.Proofs.YtmpbbkldopfkpaaDoor.lettersBefore
