/-
  The law InkChoice returns true and turns nothing that was there.
-/
import Derived.Test.YtaioadjcdjmkdaaI11
import Derived.Test.YtaioadjcdjmkdaaQM8
import Derived.Test.YtaioadjcdjmkdaaRows
import Derived.Test.YtaioadjcdjmkdaaEN
import Derived.WalkKit
import Derived.ProofKit
import Derived.OpenShut
import Derived.ChangeOld
import Derived.Below
namespace Go.Proofs.Ytaioadjcdjmkdaa.inkChoice
open Go.RowKit Go.ChangeShapes Go.WideShapes Go.ChangeAt
set_option linter.unusedVariables false
theorem wo_len' {M : List Int} {k : Nat} (h : k < M.length) : (wo M k).length + 1 = M.length := by
  simp only [wo, List.length_append, List.length_take, List.length_drop]; omega
theorem colsI_inj {s t : Nat} (hs : s < 2 ^ 7) (ht : t < 2 ^ 7) (h : colsI s = colsI t) : s = t := by
  have mem : ∀ c, c ∈ cols s ↔ c ∈ cols t := fun c => by
    have e : ∀ q : Nat, (c : Int) ∈ colsI q ↔ c ∈ cols q := fun q => by
      simp only [colsI, List.mem_map]
      exact ⟨fun ⟨a, h1, h2⟩ => by rwa [show c = a by omega], fun h => ⟨c, h, rfl⟩⟩
    rw [← e, ← e, h]
  refine Nat.eq_of_testBit_eq fun c => ?_
  rw [Bool.eq_iff_iff]
  exact ⟨fun hb => (cols_mem.1 ((mem c).1 (cols_mem.2 ⟨lt_bit hs hb, hb⟩))).2, fun hb => (cols_mem.1 ((mem c).2 (cols_mem.2 ⟨lt_bit ht hb, hb⟩))).2⟩
def okB (by_ : List Int) : Bool := by_.all fun b => decide (0 ≤ b ∧ b < 256)
def B8 (e : Pal) (by_ : List Int) (col : Int) : Option Bool := if okE e = true ∧ okB by_ = true ∧ 0 ≤ col ∧ col < 256 then some true else none
theorem KB8 : FnOk Try.prog 8 (F8 B8) := ok8 (some true) B17 B19 B21 Beq B26 B28 B41 B42 B43 B44 K16t KB17 KB19 KB21 KB23 KB26 KB28 KB41 KB42 KB43 KB44 B8 fun e by_ col r h => by
  simp only [B8] at h
  split at h
  · rename_i hf
    obtain ⟨he, hb, hc0, hc1⟩ := hf
    have hb' : ∀ b ∈ by_, 0 ≤ b ∧ b < 256 := by simpa [okB] using hb
    obtain ⟨N, hN⟩ : ∃ N, 1000 < N := ⟨1001, by omega⟩
    refine ⟨N, ?_⟩
    have e42 := B42_ok (e := e) hb' (k := 7) (by omega)
    have hp := mkP_ok e
    rw [← h, m8]
    rw [show ((7 : Nat) : Int) = 7 from rfl] at e42
    rw [B41, if_pos he, Option.bind_some, e42, Option.bind_some]
    obtain ⟨hs, hl7⟩ := sqB_ok hp by_ 7
    generalize sqB (mkP e) by_ 7 = l at *
    generalize mkP e = p at *
    obtain ⟨n2, n7, hn⟩ := nat7 hp
    have h7 := pow_le7 n7
    have hf : fitP p = true ∧ l.length ≤ 1000 := ⟨hp.fit, by omega⟩
    have h12 : sqE p l 12 = 0 := sq_ok.2 ⟨hp, by omega, hs⟩
    have hg := giv_lt hp hs
    have hcl : (colsI (givI p l)).length ≤ 1000 := by have := colsI_len (givI p l); omega
    have elea := lea_lst hp hs
    obtain ⟨z, rfl⟩ : ∃ z : Nat, col = z := ⟨col.toNat, by omega⟩
    have hcn : z % p.1.toNat < p.1.toNat := Nat.mod_lt _ (by omega)
    have ec : Int.tmod (w64 (z : Int)) p.1 = ((z % p.1.toNat : Nat) : Int) := by
      rw [w64_small (by omega)]; conv => lhs; rw [hn]
      exact tmod_nat z _
    generalize z % p.1.toNat = c at *
    have e17 : B17 p l = some (colsI (givI p l), 0) := by rw [B17, if_pos hf, gvI, if_pos h12]
    have e21 : B21 p l = some (spI p l, 0) := by rw [B21, if_pos hf, saI, if_pos h12]
    have e26 : B26 p l (c : Int) = some (chI p l c) := by rw [B26, if_pos hf]
    -- spare stones
    have spare : l8a (some true) B17 B19 B21 Beq B26 B28 B41 B42 B43 B44 N p l (leaI p l) N 0 (spI p l) 0 0 = some true := by
      let P : Nat → Bool := fun i => (givI p (wo l i) : Int) == (givI p l : Int)
      have eP : ∀ t, t < l.length → Beq (colsI (givI p (wo l t))) (colsI (givI p l)) = some (P t) := fun t ht => by
        have hw := wo_ok hs t
        have hgw := giv_lt hp hw.1
        rw [Beq, if_pos (by have := colsI_len (givI p (wo l t)); omega)]
        congr 1
        rw [Bool.eq_iff_iff, decide_eq_true_eq]
        show _ ↔ ((givI p (wo l t) : Int) == (givI p l : Int)) = true
        rw [beq_iff_eq]
        constructor
        · intro h; have := colsI_inj (by omega) (by omega) h; omega
        · intro h; rw [show givI p (wo l t) = givI p l by omega]
      exact rangeIx l 0 (fun n (k : Nat) t => l8a (some true) B17 B19 B21 Beq B26 B28 B41 B42 B43 B44 N p l (leaI p l) n 0 (spI p l) (k : Int) t) (fun t xs k => t + xs.length = l.length ∧ k ≤ (spI p l).length ∧ (spI p l).drop k = ((List.range' t xs.length).filter P).map fun (i : Nat) => (i : Int)) (fun t xs k => some true)
        (fun n k t x rest ht hx hI ih => by
          obtain ⟨i1, i2, i3⟩ := hI
          simp only [List.length_cons] at i1 i3
          have hwl := wo_len' ht
          have d1 : decide (0 ≤ (t : Int) ∧ (t : Int) ≤ (l.length : Int)) = true := decide_eq_true (by omega)
          have d2 : decide (0 ≤ ((t + 1 : Nat) : Int) ∧ ((t + 1 : Nat) : Int) ≤ (l.length : Int)) = true := decide_eq_true (by omega)
          have d3 : small (0 + (l.take t).length) 8 = true := small_of (by simp; omega) (by decide)
          have d4 : small (([] ++ l.take t).length + (l.drop (t + 1)).length) 8 = true := small_of (by simp; omega) (by decide)
          have hw := wo_ok hs t
          have e43 : B43 p (([] ++ l.take t) ++ l.drop (t + 1)) = some (leaI p (wo l t)) := B43_ok (l := wo l t) hp hw.1 (by omega)
          simp only [l8a, ixA ht, d1, d2, d3, d4, cond_true, chk_true, Int.toNat_natCast, ixW ht (by omega), e43, Option.bind_some, B44_lea hp hw.1, B44_lea hp hs, eP t ht]
          rw [List.range'_succ, List.filter_cons] at i3
          have hsp : (spI p l).length ≤ 1000 := by
            simp only [spI, List.length_map]
            exact Nat.le_trans (List.length_filter_le _ _) (by simp; omega)
          cases hP : P t with
          | true =>
            rw [hP, if_pos rfl, List.map_cons] at i3
            obtain ⟨a, b, c'⟩ := getD_drop (d := (0 : Int)) i3
            rw [decide_eq_true (by omega : (k : Int) < ((spI p l).length : Int)), cond_true, ixB a, chk_true, b]
            have : (true != ((t : Int) == (t : Int))) = false := by simp
            rw [this, cond_false, cond_true, w64_succ (by omega)]
            exact ih (k + 1) ⟨by omega, by omega, c'⟩
          | false =>
            rw [hP, if_neg (by simp)] at i3
            have go := ih k ⟨by omega, i2, i3⟩
            by_cases hk : k < (spI p l).length
            · rw [decide_eq_true (by omega : (k : Int) < ((spI p l).length : Int)), cond_true, ixB hk, chk_true]
              have hmem : (spI p l).getD k 0 ∈ (spI p l).drop k := by rw [drop_at (d := 0) hk]; exact List.mem_cons_self ..
              rw [i3] at hmem
              simp only [List.mem_map, List.mem_filter, List.mem_range'_1] at hmem
              obtain ⟨q, ⟨⟨q1, _⟩, _⟩, q2⟩ := hmem
              have : (false != ((spI p l).getD k 0 == (t : Int))) = false := by
                rw [bne_eq_false_iff_eq]; symm; rw [beq_eq_false_iff_ne]; omega
              rw [this, cond_false]
              exact go
            · rw [decide_eq_false (by omega : ¬ (k : Int) < ((spI p l).length : Int)), cond_false]
              have : (false != false) = false := rfl
              rw [this, cond_false]
              exact go)
        (fun n k hI => by
          obtain ⟨i1, i2, i3⟩ := hI
          have hk : k = (spI p l).length := by
            have := congrArg List.length i3
            simp at this; omega
          subst hk
          simp only [l8a, ixE, cond_false, beq_self_eq_true, cond_true, Option.bind_some]) N 0 (by omega) ⟨by simp, by omega, by rw [List.drop_zero, ← List.range_eq_range']; rfl⟩
    simp only [B43_ok hp hs (by omega), Option.bind_some, e17, bne_self_eq_false, cond_false, B44_lea hp hs, Beq_self hcl, Bool.not_true, decide_eq_true (show p.1 ≠ 0 by omega), chk_true, ec, e26, e21, Int.toNat_natCast]
    have hcb : decide (0 ≤ (c : Int) ∧ (c : Int) < ((leaI p l).length : Int)) = true := decide_eq_true (by rw [elea.len]; omega)
    rw [hcb, chk_true]
    obtain ⟨q1, q2, q3⟩ := ch_ls (p := p) (l := l) (c := (c : Int))
    have els : lsI p l (c : Int) = cond (decide ((leaI p l).getD c 0 < 0)) (0, 14) ((leaI p l).getD c 0, 0) := by
      rw [lsI, if_pos h12, if_pos (by omega), Int.toNat_natCast]
    by_cases h0 : (leaI p l).getD c 0 < 0
    · rw [decide_eq_true h0, cond_true] at els
      rw [els] at q1 q2
      have n1 : ((chI p l (c : Int)).2 != 14) = false := by rw [bne_eq_false_iff_eq]; exact q1
      have n2 : decide ((((chI p l (c : Int)).1.length : Nat) : Int) > 0) = false := decide_eq_false (by rw [q2 (by simp)]; simp)
      rw [decide_eq_true h0, cond_true, n1, cond_false, n2, cond_false]
      exact spare
    · rw [decide_eq_false h0, cond_false] at els
      rw [els] at q1 q3
      obtain ⟨s1, s2, s3, s4⟩ := q3 rfl
      simp only at s4 q1
      have co : coI p l (chI p l (c : Int)).1 = ((c : Int), 0) := by rw [coI, if_pos h12, if_pos s2, s3]
      have e19 : B19 p l (chI p l (c : Int)).1 = some ((c : Int), 0) := by rw [B19, if_pos hf, co]
      have e28 : B28 (chI p l (c : Int)).1 = some ((leaI p l).getD c 0) := by rw [B28, if_pos (by omega), s4]
      have n1 : ((chI p l (c : Int)).2 != 0) = false := by rw [bne_eq_false_iff_eq]; exact q1
      have n2 : ((((chI p l (c : Int)).1.length : Nat) : Int) != (l.length : Int)) = false := by rw [bne_eq_false_iff_eq, s2]
      rw [decide_eq_false h0, cond_false, e19, Option.bind_some, n1, cond_false, n2, cond_false, e28, Option.bind_some]
      simp only [bne_self_eq_false, cond_false]
      have main := rangeIx l 0 (fun n (x : Int) t => l8b (some true) B17 B19 B21 Beq B26 B28 B41 B42 B43 B44 N (z : Int) p l (leaI p l) (chI p l (c : Int)) n x t) (fun t xs x => SeqOk p xs ∧ 0 ≤ x ∧ x < (p.1.toNat : Int)) (fun t xs x => cond (clI p xs ((chI p l (c : Int)).1.drop t) x != (c : Int)) (some false) (some true))
        (fun n x t i rest ht hx hI ih => by
          have hx1 := hI.1 i (List.mem_cons_self ..)
          have hk := hp.at hx1
          have hc := hI.2
          have hke := hk.at (c := x.toNat) (by omega)
          have hr : SeqOk p rest := fun y hy => hI.1 y (by simp [hy])
          have htc : t < (chI p l (c : Int)).1.length := by omega
          have e5 : decide (0 ≤ x ∧ x < ((p.2.1.getD i.toNat []).length : Int)) = true := decide_eq_true (by rw [hk.1]; exact hc)
          simp only [l8b, ixA ht, ixB ht, ixB htc, cond_true, chk_true, Int.toNat_natCast, ixW ht (by omega), hx, decide_eq_true hx1, e5]
          rw [drop_at (d := false) htc, clI]
          cases (chI p l (c : Int)).1.getD t false with
          | true => rw [cond_true, cond_true, ih _ ⟨hr, hke⟩]
          | false => rw [cond_false, cond_false, ih _ ⟨hr, hc⟩])
        (fun n x _ => by
          have : clI p [] ((chI p l (c : Int)).1.drop l.length) x = x := by cases (chI p l (c : Int)).1.drop l.length <;> rfl
          simp only [l8b, ixE, cond_false, ec, e21, Option.bind_some, spare, this]) N 0 (by omega) ⟨hs, by omega, by omega⟩
      refine main.trans ?_
      rw [List.drop_zero, s3]; simp
  · cases h

theorem b256 {n : Int} (h : (Lit.int .u8 n).wf = true) : 0 ≤ n ∧ n < 256 := by have := bounds_u8 h; omega
theorem wfE {y : Pal} (h : DT.wf (.pair (.int .u8) (.pair (.sl (.arr 5 (.int .u8))) .unit)) y) : okE y = true := by
  obtain ⟨h1, ⟨_, h2⟩, _⟩ := (show (Lit.int .u8 y.1).wf = true ∧ (y.2.1.length ≤ maxLen ∧ ∀ i, i < y.2.1.length → DT.wf (.arr 5 (.int .u8)) (y.2.1.getD i (DT.dflt (.arr 5 (.int .u8))))) ∧ True from h)
  refine okE_ok.2 ⟨b256 h1, fun l hl => ?_⟩
  obtain ⟨i, hi, rfl⟩ := List.getElem_of_mem hl
  have := h2 i hi
  rw [List.getD_eq_getElem?_getD, List.getElem?_eq_getElem hi] at this
  obtain ⟨a, b⟩ := (show (y.2.1[i]).length = 5 ∧ ∀ j, j < (y.2.1[i]).length → (Lit.int .u8 ((y.2.1[i]).getD j 0)).wf = true from this)
  refine ⟨a, fun x hx => ?_⟩
  obtain ⟨j, hj, rfl⟩ := List.getElem_of_mem hx
  have := b256 (b j hj)
  rw [List.getD_eq_getElem?_getD, List.getElem?_eq_getElem hj] at this
  exact this
theorem wfB {y : List Int} (h : DT.wf (.sl (.int .u8)) y) : okB y = true := by
  obtain ⟨_, h2⟩ := (show y.length ≤ maxLen ∧ ∀ i, i < y.length → (Lit.int .u8 (y.getD i 0)).wf = true from h)
  simp only [okB, List.all_eq_true, decide_eq_true_eq]
  intro x hx
  obtain ⟨j, hj, rfl⟩ := List.getElem_of_mem hx
  have := b256 (h2 j hj)
  rw [List.getD_eq_getElem?_getD, List.getElem?_eq_getElem hj] at this
  exact this
theorem K (y0 : Pal) (y1 : List Int) (y2 : Int) (h0 : DT.wf (.pair (.int .u8) (.pair (.sl (.arr 5 (.int .u8))) .unit)) y0) (h1 : DT.wf (.sl (.int .u8)) y1) (h2 : DT.wf (.int .u8) y2) : FnOk Try.prog 8 (F8 B8) := KB8

set_option maxRecDepth 100000 in
theorem walk (w : World) (vs : List Value) (h : ArgsOk w [.pair (.int .u8) (.pair (.sl (.arr 5 (.int .u8))) .unit), .sl (.int .u8), .int .u8] vs) : Calls Try.prog 8 vs.toArray w fun e w' => e = .returned (.bool true) ∧ Below w.heap.size w w' := by
  obtain ⟨v0, vs0, y0, rfl, w0, h0, k0⟩ := ArgsOk.cons h
  obtain ⟨v1, vs1, y1, rfl, w1, h1, k1⟩ := ArgsOk.cons k0
  obtain ⟨v2, vs2, y2, rfl, w2, h2, k2⟩ := ArgsOk.cons k1
  obtain rfl := ArgsOk.nil k2
  exact walkAll (K y0 y1 y2 w0 w1 w2) (xs := [.dv (.pair (.int .u8) (.pair (.sl (.arr 5 (.int .u8))) .unit)) y0, .dv (.sl (.int .u8)) y1, .dv (.int .u8) y2]) (r := true) (if_pos ⟨wfE w0, wfB w1, b256 w2⟩) rfl (HoldsAll.cons h0 (HoldsAll.cons h1 (HoldsAll.cons h2 HoldsAll.nil)))

set_option maxRecDepth 100000 in
theorem lifted (os : Os) (started : os.Started) (H : Type) (enc : TypeId × Value → H) :
    ReturnsInHanded {} Try.checked os 8 .any (Rows.inkChoiceSpec.pre6 enc Try.prog Try.f8 Rows.inkChoiceRow.domain false) (Rows.inkChoiceSpec.post enc Try.prog Try.f8 false true false false) :=
  lawShell (fn := Try.f8) (s := Rows.inkChoiceSpec) (tb := 4) [.pair (.int .u8) (.pair (.sl (.arr 5 (.int .u8))) .unit), .sl (.int .u8), .int .u8] Try.func8 (by kernel_rfl) (by kernel_rfl) (by kernel_rfl) Try.underlying4 (by kernel_rfl) os started H enc Rows.inkChoiceRow.domain
    (fun ds hl => by
      match ds, hl with
      | [d0, d1, d2], _ => rfl)
    (ChangeSpec.witness6 (enc := enc) (C := Try.checked) false ⟨#[], #[.agg #[.int .u8 0, .slice none 0 0], .slice none 0 0, .int .u8 0], []⟩ 8 (by kernel_rfl) (by kernel_rfl) (by kernel_rfl) (by kernel_rfl)) walk

theorem over : Rows.inkChoiceRow.holds Try.pinned (OpenSpec.ofChange Rows.inkChoiceSpec) :=
  OpenClaim.holds_of_wide 8 Try.f8 rfl rfl rfl rfl rfl rfl rfl ⟨rfl, rfl, rfl, rfl, rfl⟩ rfl rfl rfl rfl rfl (by kernel_rfl) Try.func8 (by kernel_rfl)
    (of_decide_eq_true (by kernel_rfl)) (by unfold Func.isWrapper; first | (rw [if_pos (by decide +kernel)]; kernel_rfl) | (rw [if_neg (by decide +kernel)]; exact ⟨rfl, rfl⟩))
    (fun os started H enc _ => lifted os started H enc)

/-- THE STATEMENT. -/
theorem proved : Rows.InkChoiceSaid := over

end Go.Proofs.Ytaioadjcdjmkdaa.inkChoice
