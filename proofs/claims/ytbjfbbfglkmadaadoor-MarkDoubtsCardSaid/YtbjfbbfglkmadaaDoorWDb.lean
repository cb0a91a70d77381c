/-
  The law MarkDoubts returns true and turns nothing that was there; the table count is what the program lays.
-/
import Derived.Test.YtbjfbbfglkmadaaDoorR6
import Derived.Test.YtbjfbbfglkmadaaDoorL6
import Derived.Test.YtbjfbbfglkmadaaDoorRows
import Derived.Test.YtbjfbbfglkmadaaDoorLD
import Derived.WalkKit
import Derived.ProofKit
import Derived.OpenShut
import Derived.ChangeOld
import Derived.Below
namespace Go.Proofs.YtbjfbbfglkmadaaDoor.markDoubts
open Go.RowKit Go.ChangeShapes Go.WideShapes Go.ChangeAt
set_option linter.unusedVariables false

theorem mE_of {n : Int} : ∀ {l : List Int} {last : Int}, (∀ x ∈ l, 0 ≤ x ∧ x ≤ n ∧ last < x) → l.Pairwise (· < ·) → mE n last l = 0
  | [], _, _, _ => rfl
  | x :: r, last, h, hp => by
    obtain ⟨h1, h2⟩ := List.pairwise_cons.1 hp
    have hx := h x (by simp)
    rw [mE, decide_eq_true (show 0 ≤ x ∧ x ≤ n from ⟨hx.1, hx.2.1⟩), decide_eq_false (show ¬ x ≤ last by omega), cond_true, cond_false]
    exact mE_of (fun y hy => ⟨(h y (by simp [hy])).1, (h y (by simp [hy])).2.1, h1 y hy⟩) h2
theorem coE_of {c : Cd} {k : Nat} {x : List Int} (h : isCo c.2.1.length k x) : coE c x = 0 := by
  have h0 : 0 < x.length := by
    have := h.1
    cases x with
    | nil => exact absurd rfl this
    | cons _ _ => simp
  rw [coE, decide_eq_false (by omega), cond_false]
  exact mE_of (fun i hi => by have := h.2.2.2 i hi; omega) h.2.2.1
theorem vE_none {c : Cd} {w : List Int} : ∀ {ls : List (List Int)}, (∀ l ∈ ls, coE c l = 0 ∧ l.length ≤ 2 ∧ mk c l w = true) → vE c w ls = none
  | [], _ => rfl
  | l :: r, h => by
    obtain ⟨a, b, d⟩ := h l (by simp)
    rw [vE, decide_eq_true a, decide_eq_false (show ¬ 2 < l.length by omega), d, cond_true, cond_false, cond_true]
    exact vE_none fun x hx => h x (by simp [hx])
theorem found_ok {c : Cd} {ls : List (List Int)} (hc : cdE c = 0) (h0 : 2 ≤ ls.length ∧ ls.length ≤ 3) (hco : ∀ l ∈ ls, isCo c.2.1.length 2 l) (h : (dbF c ls).2 = true) :
    vfV c (dbF c ls).1 = 0 ∧ (dbF c ls).1.1.length ≤ 1000 ∧ ∀ l ∈ (dbF c ls).1.2.1, l.length ≤ 1000 := by
  obtain ⟨hm, hn, hz, hlen, hb⟩ := cdE_ok hc
  have hok : ∀ l ∈ ls, okS c l = true := fun l hl => okS_co hn.2 (hco l hl)
  have h' := h
  rw [dbF_snd hc (by omega) hok, Bool.and_eq_true] at h'
  obtain ⟨hp, hcm⟩ := h'
  have hall : ((List.range' 0 (sz c)).all fun k => decide (0 ≤ fb (anA c (ls.drop 1) (mkN c (ls.getD 0 [])) k))) = true := by
    cases e : (List.range' 0 (sz c)).all fun k => decide (0 ≤ fb (anA c (ls.drop 1) (mkN c (ls.getD 0 [])) k)) with
    | true => rfl
    | false => rw [dbF, fin78, e] at h; cases h
  have e1 : (dbF c ls).1 = ((List.range' 0 (sz c)).map fun k => fb (anA c (ls.drop 1) (mkN c (ls.getD 0 [])) k), ls, ()) := by
    rw [dbF, fin78, hall]; rfl
  rw [e1]
  rw [List.all_eq_true] at hall
  -- the marks
  have mark : ∀ k, k < sz c → ∃ m : Nat, fb (anA c (ls.drop 1) (mkN c (ls.getD 0 [])) k) = (m : Int) ∧ (m : Int) < c.1 ∧ ∀ l ∈ ls, hsM c l k (m : Int) = true := fun k hk => by
    obtain ⟨m, h1, h2, h3⟩ := fb_at (of_decide_eq_true (hall k (by rw [List.mem_range'_1]; omega)))
    rw [an_bit hc (by omega) hok hk, List.all_eq_true] at h3
    exact ⟨m, h2, (hsM_lt hc (okS_at (hok _ (getD_mem (d := []) (show 0 < ls.length by omega)))).2.1 hk (h3 _ (getD_mem (d := []) (by omega)))).2, h3⟩
  generalize hwd : (List.range' 0 (sz c)).map (fun k => fb (anA c (ls.drop 1) (mkN c (ls.getD 0 [])) k)) = wd at *
  have hwl : wd.length = sz c := by rw [← hwd]; simp
  have hget : ∀ k, k < sz c → wd.getD k 0 = fb (anA c (ls.drop 1) (mkN c (ls.getD 0 [])) k) := fun k hk => by
    rw [← hwd, List.getD_eq_getElem?_getD, List.getElem?_map, List.getElem?_range' hk]
    simp
  have hwe : cwE c wd = 0 := by
    rw [cwE, decide_eq_true hc, cond_true, wE, decide_eq_true hwl, cond_true]
    have : wd.any (outM c.1) = false := List.any_eq_false.2 fun m hm => by
      obtain ⟨k, hk, hkm⟩ := List.getElem_of_mem hm
      obtain ⟨m', q1, q2, _⟩ := mark k (by omega)
      have : wd.getD k 0 = m := by rw [List.getD_eq_getElem?_getD, List.getElem?_eq_getElem hk]; exact hkm
      rw [hget k (by omega), q1] at this
      simp only [outM, Bool.not_eq_true, Bool.not_eq_false', decide_eq_true_eq]
      rw [w64_small (by omega)]; omega
    rw [this]; rfl
  refine ⟨?_, show wd.length ≤ 1000 by omega, fun l hl => by have := isCo_len (hco l hl); omega⟩
  rw [vfV]
  simp only
  rw [decide_eq_true hwe, cond_true, decide_eq_false (show ¬ ls.length = 0 by omega), cond_false, decide_eq_false (show ¬ 10 < ls.length by omega), cond_false, vfO]
  rw [vE_none fun l hl => ⟨coE_of (hco l hl), (hco l hl).2.1, by
    rw [mk, List.all_eq_true]
    intro k hk
    have hk := List.mem_range.1 hk
    obtain ⟨m, q1, _, q3⟩ := mark k (by omega)
    have := q3 l hl
    rw [hget k (by omega), q1]
    exact this⟩]
  simp only
  rw [show cm ls = false by cases e : cm ls with
    | false => rfl
    | true => rw [e] at hcm; cases hcm]
  rfl
theorem cands_co {N : Nat} {ls : List (List Int)} (h : ls ∈ cands N) : (2 ≤ ls.length ∧ ls.length ≤ 3) ∧ ∀ l ∈ ls, isCo N 2 l := by
  rw [cands, List.mem_append] at h
  rcases h with h | h
  · simp only [prs, List.mem_flatMap, List.mem_map] at h
    obtain ⟨a, ha, b, hb, rfl⟩ := h
    refine ⟨by simp, fun l hl => ?_⟩
    simp only [List.mem_cons, List.not_mem_nil, or_false] at hl
    rcases hl with rfl | rfl
    · exact co_mem.1 ha
    · exact co_mem.1 hb
  · simp only [trs, List.mem_map, List.mem_filter, decide_eq_true_eq] at h
    obtain ⟨e, ⟨he, h3⟩, rfl⟩ := h
    have hw := co_mem.1 he
    match e, hw, h3 with
    | [x, y, z], hw, _ =>
      refine ⟨by simp [tri], fun l hl => ?_⟩
      have hr := hw.2.2.1
      simp only [List.pairwise_cons, List.mem_cons, List.not_mem_nil, or_false, forall_eq_or_imp, forall_eq] at hr
      have m0 := hw.2.2.2 x (by simp)
      have m1 := hw.2.2.2 y (by simp)
      have m2 := hw.2.2.2 z (by simp)
      have two : ∀ a b : Int, a < b → 0 ≤ a → b < N → isCo N 2 [a, b] := fun a b h1 h2 h3 => by
        refine ⟨by simp, Nat.le_refl _, ?_, ?_⟩
        · simp only [List.pairwise_cons, List.mem_cons, List.not_mem_nil, or_false, forall_eq, List.Pairwise.nil, false_imp_iff, implies_true, and_true]
          omega
        · simp only [List.mem_cons, List.not_mem_nil, or_false, forall_eq_or_imp, forall_eq]
          omega
      have hl : l = [x, y] ∨ l = [x, z] ∨ l = [y, z] := by simpa [tri] using hl
      rcases hl with rfl | rfl | rfl
      · exact two _ _ (by omega) (by omega) (by omega)
      · exact two _ _ (by omega) (by omega) (by omega)
      · exact two _ _ (by omega) (by omega) (by omega)
    | _ :: _ :: _ :: _ :: _, hw, _ => have := hw.2.1; simp only [List.length_cons] at this; omega
theorem dbV_cases {c : Cd} (hs : smB c = true) : ((dbV c).2 = 0 ∧ vfV c (dbV c).1 = 0 ∧ okD c (dbV c).1 = true) ∨ ((dbV c).2 ≠ 0 ∧ (dbV c).1 = ([], [], ())) := by
  unfold dbV
  cases e : decide (cdE c = 0) with
  | false => exact .inr ⟨of_decide_eq_false e, rfl⟩
  | true =>
    have hc := of_decide_eq_true e
    rw [cond_true, dbO]
    cases hf : (cands c.2.1.length).find? fun ls => (dbF c ls).2 with
    | none => exact .inr ⟨(by simp), rfl⟩
    | some ls =>
      obtain ⟨h1, h2⟩ := cands_co (List.mem_of_find?_eq_some hf)
      obtain ⟨h3, h4, h5⟩ := found_ok hc h1 h2 (List.find?_some (p := fun ls => (dbF c ls).2) hf)
      refine .inl ⟨rfl, h3, ?_⟩
      simp only [okD, Bool.and_eq_true, decide_eq_true_eq, List.all_eq_true]
      exact ⟨⟨hs, h4⟩, h5⟩
def B6 (c : Cd) (d : Db) : Option Bool := some true
theorem KB6 : FnOk Tryd.prog 6 (F6 B6) := ok6 B14 (some true) B36 B37 B38 B38 KB14 K15t KB36 KB37 KB38 KB39 B6 fun c d r h => ⟨41, by
  rw [← h, m6]
  simp only [B14, Option.bind_some]
  cases e : (decide (20 < c.2.1.length) || c.2.1.any fun w => decide (20 < w.length)) with
  | true => rfl
  | false =>
    have hs := B14_no e
    rw [cond_false, show decide ((d.1.length : Int) > 40) = decide (40 < d.1.length) from lenGt _ 40, show decide ((d.2.1.length : Int) > 40) = decide (40 < d.2.1.length) from lenGt _ 40]
    cases e1 : decide (40 < d.1.length) with
    | true => rfl
    | false =>
      cases e2 : decide (40 < d.2.1.length) with
      | true => rfl
      | false =>
        have h1 := of_decide_eq_false e1
        have h2 := of_decide_eq_false e2
        rw [cond_false, cond_false]
        refine rangeP d.2.1 [] (fun n (_ : Unit) t => l6a B14 (some true) B36 B37 B38 B38 41 c d n t) (fun t _ _ => ∀ l ∈ d.2.1.take t, l.length ≤ 40) (fun r => r = B6 c d) (fun n s t x rest ht hx hd hI ih => ?_) (fun n s hI => ?_) 41 () (by omega) (fun l hl => by cases hl)
        · simp only [l6a, ixA ht, ixB ht, cond_true, chk_true, Int.toNat_natCast, hx]
          rw [show decide ((x.length : Int) > 40) = decide (40 < x.length) from lenGt _ 40]
          cases e3 : decide (40 < x.length) with
          | true => rfl
          | false =>
            have h3 := of_decide_eq_false e3
            rw [cond_false, ixW ht (by omega)]
            refine ih () fun l hl => ?_
            rw [take_succ' ht hx] at hl
            rcases List.mem_append.1 hl with hl | hl
            · exact hI l hl
            · rw [List.mem_singleton.1 hl]; omega
        · rw [List.take_length] at hI
          have hd : okD c d = true := by
            simp only [okD, Bool.and_eq_true, decide_eq_true_eq, List.all_eq_true]
            exact ⟨⟨hs, by omega⟩, fun l hl => by have := hI l hl; omega⟩
          have e36 : B36 c = some (dbV c) := if_pos hs
          have e37 : B37 c = some (dbV c).2 := if_pos hs
          have e38 : B38 c d = some (vfV c d) := if_pos hd
          simp only [l6a, ixE, cond_false, e36, e37, e38, Option.bind_some, bneDec, decide_true, Bool.not_true]
          rcases dbV_cases hs with ⟨q1, q2, q3⟩ | ⟨q1, q2⟩
          · have e39 : B38 c (dbV c).1 = some 0 := (if_pos q3).trans (by rw [q2])
            rw [decide_eq_true q1, Bool.not_true, cond_false, e39]; rfl
          · rw [decide_eq_false q1, q2]; rfl⟩
theorem K (y0 : Cd) (y1 : List Int × List (List Int) × Unit) (_ : DT.wf (.pair (.int .i64) (.pair (.sl (.sl (.int .i64))) .unit)) y0) (_ : DT.wf (.pair (.sl (.int .i64)) (.pair (.sl (.sl (.int .i64))) .unit)) y1) : FnOk Tryd.prog 6 (F6 (fun _ _ => some true)) := KB6

set_option maxRecDepth 100000 in
theorem walk (w : World) (vs : List Value) (hgl : GlbOk w (fun b => b < w.heap.size)) (h : ArgsOk w [.pair (.int .i64) (.pair (.sl (.sl (.int .i64))) .unit), .pair (.sl (.int .i64)) (.pair (.sl (.sl (.int .i64))) .unit)] vs) : Calls Tryd.prog 6 vs.toArray w fun e w' => e = .returned (.bool true) ∧ Below w.heap.size w w' := by
  obtain ⟨v0, vs0, y0, rfl, w0, h0, k0⟩ := ArgsOk.cons h
  obtain ⟨v1, vs1, y1, rfl, w1, h1, k1⟩ := ArgsOk.cons k0
  obtain rfl := ArgsOk.nil k1
  exact walkAll (K y0 y1 w0 w1) (xs := [.dv (.pair (.int .i64) (.pair (.sl (.sl (.int .i64))) .unit)) y0, .dv (.pair (.sl (.int .i64)) (.pair (.sl (.sl (.int .i64))) .unit)) y1]) (r := true) (rfl) rfl (HoldsAll.cons h0 (HoldsAll.cons h1 HoldsAll.nil)) hgl

set_option maxRecDepth 100000 in
theorem lifted (os : Os) (started : os.Started) (H : Type) (enc : TypeId × Value → H) :
    ReturnsInHanded {} Tryd.checked os 6 .any (fun w args => (Rows.markDoubtsSpec.pre enc Tryd.prog Tryd.f6 [] false w args ∧ laidMetH Tryd.prog laidL w) ∧ sizedMet enc Tryd.prog Tryd.f6 (OpenSpec.ofChange Rows.markDoubtsSpec) false w args) (Rows.markDoubtsSpec.post enc Tryd.prog Tryd.f6 false true false false) :=
  lawShellT (fn := Tryd.f6) (s := Rows.markDoubtsSpec) (tb := 4) [.pair (.int .i64) (.pair (.sl (.sl (.int .i64))) .unit), .pair (.sl (.int .i64)) (.pair (.sl (.sl (.int .i64))) .unit)] Tryd.func6 (by kernel_rfl) (by kernel_rfl) (by kernel_rfl) Tryd.underlying4 (by kernel_rfl) os started H enc []
    (fun ds hl => by
      match ds, hl with
      | [d0, d1], _ => rfl)
    (ChangeSpec.witness_shaped (enc := enc) (C := Tryd.checked) (os := os) (X := fun w _ => laidMetH Tryd.prog laidL w) false (laidWorld os) #[.agg #[.int .i64 0, .slice none 0 0], .agg #[.slice none 0 0, .slice none 0 0]] 8 rfl (World.shaped_of_RefB (by kernel_rfl) (by kernel_rfl)) (by kernel_rfl) (by kernel_rfl) (by kernel_rfl) (laidWorld_met os _)) walk

theorem over : Rows.MarkDoubtsSaid :=
  OpenClaim.holds_of_wide 6 Tryd.f6 rfl rfl rfl rfl rfl rfl rfl ⟨rfl, rfl, rfl, rfl, rfl⟩ rfl rfl rfl rfl rfl (by kernel_rfl) Tryd.func6 (by kernel_rfl)
    (of_decide_eq_true (by kernel_rfl)) (by unfold Func.isWrapper; first | (rw [if_pos (by decide +kernel)]; kernel_rfl) | (rw [if_neg (by decide +kernel)]; exact ⟨rfl, rfl⟩))
    (fun os started H enc _ => lifted os started H enc)

set_option maxRecDepth 100000 in
/-- THE STATEMENT. -/
theorem proved : Rows.MarkDoubtsCardSaid :=
  Claim7.holds_tied_plain_at .later [] [.data] true (true, "018cc82852a7e087e6539cfb5cb3f00d3e0f6e4bd9da8bf234baf6754ce1d347") false
    over (fun _ h => by cases h) (by kernel_rfl) (fun _ h => by cases h) markDoubts_row_tie rfl ⟨rfl, rfl⟩ mainIs0 rfl
    (fun f fn hf hfn => by
      obtain rfl : f = 6 := Option.some.inj ((show Tryd.prog.funcNamed "tusche/tuschelaw09.MarkDoubts" = some 6 by kernel_rfl).symm.trans hf) |>.symm
      obtain rfl : fn = Tryd.f6 := (Option.some.inj (Tryd.func6.symm.trans hfn)).symm
      exact ⟨by kernel_rfl, fun j t ht => by
        rw [Tryd.params6] at ht
        have hall : (#[24, 56] : Array TypeId).toList.all (fun t => !Tryd.pinned.checked.prog.wantsStandIn t) = true := by kernel_rfl
        have := List.all_eq_true.1 hall t (Array.mem_toList_iff.2 (Array.mem_of_getElem? ht))
        simpa using this⟩)
    (by kernel_rfl)

end Go.Proofs.YtbjfbbfglkmadaaDoor.markDoubts
