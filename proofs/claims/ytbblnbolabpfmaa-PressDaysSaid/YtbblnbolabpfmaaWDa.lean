/-
  The law PressDays returns true and turns nothing that was there.
-/
import Derived.Test.YtbblnbolabpfmaaO3
import Derived.Test.YtbblnbolabpfmaaQM11
import Derived.Test.YtbblnbolabpfmaaRows
import Derived.Test.YtbblnbolabpfmaaEN
import Derived.WalkKit
import Derived.ProofKit
import Derived.OpenShut
import Derived.ChangeOld
import Derived.Below
namespace Go.Proofs.Ytbblnbolabpfmaa.pressDays
open Go.RowKit Go.ChangeShapes Go.WideShapes Go.ChangeAt
set_option linter.unusedVariables false
theorem b256 {n : Int} (h : (Lit.int .u8 n).wf = true) : 0 ≤ n ∧ n ≤ 255 := by have := bounds_u8 h; omega
theorem wfD {y : List (List Int)} (h : DT.wf (.sl (.arr 2 (.int .u8))) y) : ∀ p ∈ y, u8p p := fun p hp => by
  obtain ⟨_, h2⟩ := (show y.length ≤ maxLen ∧ ∀ i, i < y.length → DT.wf (.arr 2 (.int .u8)) (y.getD i (DT.dflt (.arr 2 (.int .u8)))) from h)
  obtain ⟨i, hi, rfl⟩ := List.getElem_of_mem hp
  have := h2 i hi
  rw [List.getD_eq_getElem?_getD, List.getElem?_eq_getElem hi] at this
  obtain ⟨a, b⟩ := (show (y[i]).length = 2 ∧ ∀ j, j < (y[i]).length → (Lit.int .u8 ((y[i]).getD j 0)).wf = true from this)
  exact ⟨b256 (b 0 (by omega)), b256 (b 1 (by omega))⟩
theorem dk_mov {l : List Od} (h : Dk l) {k : Int} (h0 : 0 ≤ k) (h1 : k ≤ 7) : ckO (mov l k) = 0 := ck_of (by rw [mov_len]; exact h.pos) (by rw [mov_len]; have := h.len; omega) fun o ho => by
  obtain ⟨x, hx, rfl⟩ := List.mem_map.1 ho
  have := h.all x hx
  show (1 ≤ x.1 + k ∧ x.1 + k ≤ 30) ∧ 0 ≤ x.2.1 ∧ x.2.1 ≤ 10000
  omega

/-- The least fines with more days. -/
def LL (l : List Od) (k : Nat) : Nat := lay (fun c => (ga l c - gm l c) - k) 9
theorem LL_eq {l : List Od} (h : Dk l) {k : Nat} (hk : k ≤ 7) : leastO (mov l (k : Int)) = (LL l k : Int) := leastO_mov h.six (okO_of (dk_mov h (by omega) (by omega))) (M := 9) fun o ho => by have := h.all o ho; omega
theorem LL_down (l : List Od) (k : Nat) : LL l (k + 1) ≤ LL l k := lay_le fun c _ _ => by omega
theorem LL_less (l : List Od) (k : Nat) : LL l (k + 1) + LL l (k + 1) ≤ LL l k + LL l (k + 2) := by
  unfold LL
  rw [← lay_add, ← lay_add]
  exact lay_le fun c _ _ => by omega
theorem LL_0 {l : List Od} (h : Dk l) : LL l 7 = 0 := by
  have : LL l 7 ≤ lay (fun _ => 0) 9 := lay_le fun c _ _ => by have := ga_n l c; have := h.len; omega
  rw [lay_zero] at this; omega
theorem LL_top {l : List Od} (h : Dk l) (k : Nat) : LL l k ≤ 54 := by
  have : LL l k ≤ lay (fun _ => 6) 9 := lay_le fun c _ _ => by have := ga_n l c; have := h.len; omega
  exact this

theorem eleven {l : List Od} (hk : Dk l) : ∀ (m k n : Nat) (last saved : Int), k + m = 8 → m < n → (k = 0 ∧ last = -1 ∧ saved = 1000 ∨ 1 ≤ k ∧ last = (LL l (k - 1) : Nat) ∧ (saved = 1000 ∧ k = 1 ∨ 2 ≤ k ∧ saved = (LL l (k - 2) : Nat) - (LL l (k - 1) : Nat))) → l11a (some true) B18 B36 B40 100 l n last saved (k : Int) = some true := by
  have h6 := hk.six
  have hc := hk.ck
  have hlen := hk.len
  intro m
  induction m with
  | zero =>
    intro k n last saved e hn hI
    obtain ⟨n, rfl⟩ : ∃ m, n = m + 1 := ⟨n - 1, by omega⟩
    obtain rfl : k = 8 := by omega
    have hl : last = 0 := by
      rcases hI with hI | ⟨_, hI, _⟩
      · omega
      · rw [hI]; show ((LL l 7 : Nat) : Int) = 0; rw [LL_0 hk]; rfl
    simp only [l11a, decide_eq_false (show ¬ ((8 : Nat) : Int) ≤ 7 by omega), cond_false, hl, beq_self_eq_true, cond_true, Option.bind_some]
  | succ m ih =>
    intro k n last saved e hn hI
    obtain ⟨n, rfl⟩ : ∃ m, n = m + 1 := ⟨n - 1, by omega⟩
    have b36 : B36 l (k : Int) = some ((LL l k : Int), 0) := by
      rw [B36, if_pos (by omega), latO, if_pos hc, if_pos (by omega), LL_eq hk (by omega)]
    have b18 : B18 (mov l (k : Int)) = some ((LL l k : Int), 0) := by
      rw [B18, if_pos (by rw [mov_len]; omega), lea, if_pos (dk_mov hk (by omega) (by omega)), LL_eq hk (by omega)]
    have htop := LL_top hk k
    have htop1 := LL_top hk (k - 1)
    have hw : w64 ((k : Int) + 1) = ((k + 1 : Nat) : Int) := w64_succ (by omega)
    simp only [l11a, decide_eq_true (show (k : Int) ≤ 7 by omega), cond_true, b36, Option.bind_some]
    refine rangeInv l d3 (fun p (o : List Od) t => l11b (some true) B18 B36 B40 100 l last saved (k : Int) ((LL l k : Int), 0) (fun y0 y1 y2 => l11a (some true) B18 B36 B40 100 l n y0 y1 y2) p t o) (fun xs o => o.length + xs.length ≤ 6 ∧ o ++ mov xs (k : Int) = mov l (k : Int) ∧ ∀ x ∈ xs, 1 ≤ x.1 ∧ x.1 ≤ 5) (fun xs o => some true)
      (fun p o t x rest ht hx hI2 ih2 => ?_) (fun p o hI2 => ?_) 100 [] (by omega) ⟨by simpa using hlen, by simp, fun x hx => (hk.all x hx).1⟩
    · obtain ⟨h1, h2, h3⟩ := hI2
      simp only [List.length_cons] at h1
      have hxr := h3 x (by simp)
      have hsm := small_of (n := o.length + 1) (eb := 16) (by omega) (by decide)
      simp only [l11b, ixA ht, ixB ht, cond_true, chk_true, Int.toNat_natCast, ixW ht (by omega), hx, hsm]
      rw [w64_small (by omega)]
      exact ih2 _ ⟨by simp; omega, by rw [← h2]; simp [mov], fun y hy => h3 y (List.mem_cons_of_mem _ hy)⟩
    · obtain ⟨h1, h2, h3⟩ := hI2
      have : o = mov l (k : Int) := by rw [← h2]; simp [mov]
      subst this
      have z0 : ((0 : Int) != 0) = false := rfl
      simp only [l11b, ixE, cond_false, b18, Option.bind_some, z0, bne_self_eq_false, hw]
      rw [decide_eq_false (show ¬ ((LL l k : Nat) : Int) < 0 by omega), cond_false, decide_eq_false (show ¬ ((LL l k : Nat) : Int) > 100 by omega), cond_false]
      rcases hI with ⟨rfl, rfl, rfl⟩ | ⟨k1, rfl, hs⟩
      · rw [decide_eq_false (show ¬ ((0 : Nat) : Int) > 0 by omega), cond_false]
        exact ih 1 n _ _ (by omega) (by omega) (.inr ⟨by omega, rfl, .inl ⟨rfl, rfl⟩⟩)
      · obtain ⟨j, rfl⟩ : ∃ j, k = j + 1 := ⟨k - 1, by omega⟩
        simp only [Nat.add_sub_cancel] at *
        have hdn := LL_down l j
        rw [decide_eq_true (show ((j + 1 : Nat) : Int) > 0 by omega), cond_true, decide_eq_false (show ¬ ((LL l (j + 1) : Nat) : Int) > ((LL l j : Nat) : Int) by omega), cond_false, w64_small (by omega)]
        have hcon : ¬ ((LL l j : Nat) : Int) - ((LL l (j + 1) : Nat) : Int) > saved := by
          rcases hs with ⟨rfl, _⟩ | ⟨k2, rfl⟩
          · omega
          · obtain ⟨i, rfl⟩ : ∃ i, j = i + 1 := ⟨j - 1, by omega⟩
            have := LL_less l i
            rw [show i + 2 = i + 1 + 1 from rfl] at this
            have e1 : i + 1 + 1 - 2 = i := by omega
            rw [e1]
            omega
        rw [decide_eq_false hcon, cond_false]
        exact ih (j + 1 + 1) n _ _ (by omega) (by omega) (.inr ⟨by omega, by rw [Nat.add_sub_cancel], .inr ⟨by omega, by rw [Nat.add_sub_cancel, show j + 1 + 1 - 2 = j by omega]⟩⟩)

theorem KB11 : FnOk Try.prog 11 (F11 fun d => if ∀ p ∈ d, u8p p then some true else none) := ok11 (some true) B18 B36 B40 K14t KB18 KB36 KB40 _ fun d r h => ⟨100, by
  split at h
  · rename_i hd
    rw [← h, m11, B40, if_pos hd, Option.bind_some]
    exact eleven (mkD_ok d) 8 0 100 (-1) 1000 rfl (by omega) (.inl ⟨rfl, rfl, rfl⟩)
  · cases h⟩
theorem K (y0 : List (List Int)) (_ : DT.wf (.sl (.arr 2 (.int .u8))) y0) : FnOk Try.prog 11 (F11 (fun d => if ∀ p ∈ d, u8p p then some true else none)) := KB11

set_option maxRecDepth 100000 in
theorem walk (w : World) (vs : List Value) (h : ArgsOk w [.sl (.arr 2 (.int .u8))] vs) : Calls Try.prog 11 vs.toArray w fun e w' => e = .returned (.bool true) ∧ Below w.heap.size w w' := by
  obtain ⟨v0, vs0, y0, rfl, w0, h0, k0⟩ := ArgsOk.cons h
  obtain rfl := ArgsOk.nil k0
  exact walkAll (K y0 w0) (xs := [.dv (.sl (.arr 2 (.int .u8))) y0]) (r := true) (if_pos (wfD w0)) rfl (HoldsAll.cons h0 HoldsAll.nil)

set_option maxRecDepth 100000 in
theorem lifted (os : Os) (started : os.Started) (H : Type) (enc : TypeId × Value → H) :
    ReturnsInHanded {} Try.checked os 11 .any (Rows.pressDaysSpec.pre6 enc Try.prog Try.f11 Rows.pressDaysRow.domain false) (Rows.pressDaysSpec.post enc Try.prog Try.f11 false true false false) :=
  lawShell (fn := Try.f11) (s := Rows.pressDaysSpec) (tb := 4) [.sl (.arr 2 (.int .u8))] Try.func11 (by kernel_rfl) (by kernel_rfl) (by kernel_rfl) Try.underlying4 (by kernel_rfl) os started H enc Rows.pressDaysRow.domain
    (fun ds hl => by
      match ds, hl with
      | [d0], _ => rfl)
    (ChangeSpec.witness6 (enc := enc) (C := Try.checked) false ⟨#[], #[.slice none 0 0], []⟩ 8 (by kernel_rfl) (by kernel_rfl) (by kernel_rfl) (by kernel_rfl)) walk

theorem over : Rows.pressDaysRow.holds Try.pinned (OpenSpec.ofChange Rows.pressDaysSpec) :=
  OpenClaim.holds_of_wide 11 Try.f11 rfl rfl rfl rfl rfl rfl rfl ⟨rfl, rfl, rfl, rfl, rfl⟩ rfl rfl rfl rfl rfl (by kernel_rfl) Try.func11 (by kernel_rfl)
    (of_decide_eq_true (by kernel_rfl)) (by unfold Func.isWrapper; first | (rw [if_pos (by decide +kernel)]; kernel_rfl) | (rw [if_neg (by decide +kernel)]; exact ⟨rfl, rfl⟩))
    (fun os started H enc _ => lifted os started H enc)

/-- THE STATEMENT. -/
theorem proved : Rows.PressDaysSaid := over

end Go.Proofs.Ytbblnbolabpfmaa.pressDays
