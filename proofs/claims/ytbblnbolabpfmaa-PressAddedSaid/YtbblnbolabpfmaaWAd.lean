/-
  The law PressAdded returns true and turns nothing that was there.
-/
import Derived.Test.YtbblnbolabpfmaaO2
import Derived.Test.YtbblnbolabpfmaaQM9
import Derived.Test.YtbblnbolabpfmaaRows
import Derived.Test.YtbblnbolabpfmaaEN
import Derived.WalkKit
import Derived.ProofKit
import Derived.OpenShut
import Derived.ChangeOld
import Derived.Below
namespace Go.Proofs.Ytbblnbolabpfmaa.pressAdded
open Go.RowKit Go.ChangeShapes Go.WideShapes Go.ChangeAt
set_option linter.unusedVariables false
theorem b256 {n : Int} (h : (Lit.int .u8 n).wf = true) : 0 ≤ n ∧ n ≤ 255 := by have := bounds_u8 h; omega
theorem wfD {y : List (List Int)} (h : DT.wf (.sl (.arr 2 (.int .u8))) y) : ∀ p ∈ y, u8p p := fun p hp => by
  obtain ⟨_, h2⟩ := (show y.length ≤ maxLen ∧ ∀ i, i < y.length → DT.wf (.arr 2 (.int .u8)) (y.getD i (DT.dflt (.arr 2 (.int .u8)))) from h)
  obtain ⟨i, hi, rfl⟩ := List.getElem_of_mem hp
  have := h2 i hi
  rw [List.getD_eq_getElem?_getD, List.getElem?_eq_getElem hi] at this
  obtain ⟨a, b⟩ := (show (y[i]).length = 2 ∧ ∀ j, j < (y[i]).length → (Lit.int .u8 ((y[i]).getD j 0)).wf = true from this)
  exact ⟨b256 (b 0 (by omega)), b256 (b 1 (by omega))⟩
theorem nine {L r1 : List Od} (hL : r1.take ((imin (r1.length : Int) (5 : Int)).toNat) = L) (hc : ckO L = 0) (hl5 : L.length ≤ 5) : ∀ (m a n : Nat), a + m = 2 ^ L.length → m < n → l9a (some true) B40 B42 B43 B46 100 r1 n (a : Int) = some true := by
  have h6 := okO_of hc
  have hp32 : 2 ^ L.length ≤ 2 ^ 5 := Nat.pow_le_pow_right (by decide) hl5
  have hpow : IntKind.wrap .i64 ((1 : Int) * 2 ^ min (Int.toNat (L.length : Int)) 64) = ((2 ^ L.length : Nat) : Int) := one_i64 (by omega)
  have h0L : decide (0 ≤ (L.length : Int)) = true := decide_eq_true (by omega)
  have can : ∀ k : Nat, k < 2 ^ L.length → B46 (k : Int) L = some (psm L k) := fun k hk => if_pos ⟨hc, by omega, hk⟩
  have fit : ∀ k : Nat, k < 2 ^ L.length → B42 L (k : Int) = some (psm L k) := fun k hk => if_pos ⟨h6, by omega, by omega⟩
  have mems : ∀ k : Nat, k < 2 ^ L.length → B43 (k : Int) = some (lstM k) := fun k hk => if_pos ⟨by omega, by omega⟩
  intro m
  induction m with
  | zero =>
    intro a n e hn
    obtain ⟨n, rfl⟩ : ∃ m, n = m + 1 := ⟨n - 1, by omega⟩
    have : a = 2 ^ L.length := by omega
    subst this
    simp only [l9a, hL, h0L, chk_true, hpow, ixE, cond_false, Option.bind_some]
  | succ m ih =>
    intro a n e hn
    obtain ⟨n, rfl⟩ : ∃ m, n = m + 1 := ⟨n - 1, by omega⟩
    have ha : a < 2 ^ L.length := by omega
    have ih := ih (a + 1) n (by omega) (by omega)
    have hw : w64 ((a : Int) + 1) = ((a + 1 : Nat) : Int) := w64_succ (by omega)
    simp only [l9a, hL, h0L, chk_true, hpow, ixA ha, cond_true, can a ha, fit a ha, Option.bind_some, bne_self_eq_false, cond_false, hw]
    cases hpa : psm L a with
    | false => rw [Bool.not_false, cond_true]; exact ih
    | true =>
      rw [Bool.not_true, cond_false]
      have hpos := (psm_iff h6 a).1 hpa
      -- all pairs
      have pairs : ∀ (q b n2 : Nat), b + q = 2 ^ L.length → q < n2 → l9c (some true) B40 B42 B43 B46 100 r1 (a : Int) (fun y0 => l9a (some true) B40 B42 B43 B46 100 r1 n y0) n2 (b : Int) = some true := by
        intro q
        induction q with
        | zero =>
          intro b n2 e2 hn2
          obtain ⟨n2, rfl⟩ : ∃ m, n2 = m + 1 := ⟨n2 - 1, by omega⟩
          have : b = 2 ^ L.length := by omega
          subst this
          simp only [l9c, hL, h0L, chk_true, hpow, ixE, cond_false, hw]
          exact ih
        | succ q ihb =>
          intro b n2 e2 hn2
          obtain ⟨n2, rfl⟩ : ∃ m, n2 = m + 1 := ⟨n2 - 1, by omega⟩
          have hb : b < 2 ^ L.length := by omega
          have ihb := ihb (b + 1) n2 (by omega) (by omega)
          have hwb : w64 ((b : Int) + 1) = ((b + 1 : Nat) : Int) := w64_succ (by omega)
          simp only [l9c, hL, h0L, chk_true, hpow, ixA hb, cond_true, mems b hb, mems a ha, can b hb, Option.bind_some, hwb]
          by_cases hsz : ((lstM b).length : Int) ≤ ((lstM a).length : Int)
          · rw [decide_eq_true hsz, cond_true]; exact ihb
          · rw [decide_eq_false hsz, cond_false]
            cases hpb : psm L b with
            | false => rw [Bool.not_false, cond_true]; exact ihb
            | true =>
              rw [Bool.not_true, cond_false]
              rw [lstM_len hb (by omega), lstM_len ha (by omega)] at hsz
              obtain ⟨x, x1, x2, x3, x4⟩ := added hpos ((psm_iff h6 b).1 hpb) (by omega)
              have scan : ∀ (p t n3 : Nat) (f : Bool), t + p = L.length → p < n3 → (f = true ∨ t ≤ x) → l9d (some true) B40 B42 B43 B46 100 r1 (a : Int) (b : Int) (fun y0 => l9c (some true) B40 B42 B43 B46 100 r1 (a : Int) (fun y0 => l9a (some true) B40 B42 B43 B46 100 r1 n y0) n2 y0) n3 f (t : Int) = some true := by
                intro p
                induction p with
                | zero =>
                  intro t n3 f e3 hn3 hf
                  obtain ⟨n3, rfl⟩ : ∃ m, n3 = m + 1 := ⟨n3 - 1, by omega⟩
                  have : t = L.length := by omega
                  subst this
                  have : f = true := hf.resolve_right (by omega)
                  subst this
                  simp only [l9d, hL, ixE, cond_false, Bool.not_true, hwb]
                  exact ihb
                | succ p ihd =>
                  intro t n3 f e3 hn3 hf
                  obtain ⟨n3, rfl⟩ : ∃ m, n3 = m + 1 := ⟨n3 - 1, by omega⟩
                  have ht : t < L.length := by omega
                  have b1 := bit_i64 (s := b) (by omega) (show t ≤ 64 by omega)
                  have b2 := bit0_i64 (s := a) (by omega) (show t ≤ 64 by omega)
                  have hone := one_i64 (c := t) (by omega)
                  have hpt : 2 ^ t < 2 ^ L.length := Nat.pow_lt_pow_right (by decide) ht
                  have hor := bOr_i64 (a := a) (b := 2 ^ t) (by omega) (by omega)
                  have horl : a ||| 2 ^ t < 2 ^ L.length := Nat.or_lt_two_pow ha hpt
                  have hwt : w64 ((t : Int) + 1) = ((t + 1 : Nat) : Int) := w64_succ (by omega)
                  rw [Int.toNat_natCast] at b1 b2 hone
                  simp only [l9d, hL, ixA ht, cond_true, decide_eq_true (show (0 : Int) ≤ (t : Int) by omega), chk_true, Int.toNat_natCast, b1, b2, hone, hor, can _ horl, Option.bind_some, hwt]
                  cases f with
                  | true => rw [cond_true]; exact ihd (t + 1) n3 true (by omega) (by omega) (.inl rfl)
                  | false =>
                    have hx := hf.resolve_left (by decide)
                    rw [cond_false]
                    rw [show b.testBit t = tb b t from rfl, show a.testBit t = tb a t from rfl]
                    by_cases q : t = x
                    · subst q
                      have : psm L (a ||| 2 ^ t) = true := (psm_iff h6 _).2 (x4.congr fun i _ => by
                        rw [tb_or, tb_pow, ins]; congr 1
                        by_cases q : t = i
                        · subst q; simp
                        · rw [decide_eq_false q]; symm; simp; omega)
                      rw [x2, x3, cond_true, Bool.not_false, cond_true, this]
                      exact ihd (t + 1) n3 true (by omega) (by omega) (.inl rfl)
                    · cases tb b t with
                      | false => rw [cond_false]; exact ihd (t + 1) n3 false (by omega) (by omega) (.inr (by omega))
                      | true =>
                        rw [cond_true]
                        cases tb a t with
                        | true => rw [Bool.not_true, cond_false]; exact ihd (t + 1) n3 false (by omega) (by omega) (.inr (by omega))
                        | false => rw [Bool.not_false, cond_true]; exact ihd (t + 1) n3 _ (by omega) (by omega) (.inr (by omega))
              exact scan L.length 0 100 false (by omega) (by omega) (.inr (by omega))
      -- all that is less
      have less : ∀ (p t n3 : Nat), t + p = L.length → p < n3 → l9b (some true) B40 B42 B43 B46 100 r1 (a : Int) (fun y0 => l9a (some true) B40 B42 B43 B46 100 r1 n y0) n3 (t : Int) = some true := by
        intro p
        induction p with
        | zero =>
          intro t n3 e3 hn3
          obtain ⟨n3, rfl⟩ : ∃ m, n3 = m + 1 := ⟨n3 - 1, by omega⟩
          have : t = L.length := by omega
          subst this
          simp only [l9b, hL, ixE, cond_false]
          exact pairs (2 ^ L.length) 0 100 (by omega) (by omega)
        | succ p ihd =>
          intro t n3 e3 hn3
          obtain ⟨n3, rfl⟩ : ∃ m, n3 = m + 1 := ⟨n3 - 1, by omega⟩
          have ht : t < L.length := by omega
          have hone := one_i64 (c := t) (by omega)
          have hpt : 2 ^ t < 2 ^ L.length := Nat.pow_lt_pow_right (by decide) ht
          have hwt : w64 ((t : Int) + 1) = ((t + 1 : Nat) : Int) := w64_succ (by omega)
          obtain ⟨c, c1, c2, c3⟩ := andNot_bits (a := a) (b := 2 ^ t) (by omega) (by omega)
          have hpc : psm L c = true := (psm_iff h6 _).2 (hpos.sub fun i _ hi => by rw [c3, Bool.and_eq_true] at hi; exact hi.1)
          rw [Int.toNat_natCast] at hone
          simp only [l9b, hL, ixA ht, cond_true, decide_eq_true (show (0 : Int) ≤ (t : Int) by omega), chk_true, Int.toNat_natCast, hone, c1, can c (by omega), hpc, Option.bind_some, Bool.not_true, cond_false, hwt]
          exact ihd (t + 1) n3 (by omega) (by omega)
      exact less L.length 0 100 (by omega) (by omega)

theorem KB9 : FnOk Try.prog 9 (F9 fun d => if ∀ p ∈ d, u8p p then some true else none) := ok9 (some true) B40 B42 B43 B46 K14t KB40 KB42 KB43 KB46 _ fun d r h => ⟨100, by
  split at h
  · rename_i hd
    rw [← h, m9, B40, if_pos hd, Option.bind_some]
    have hk := mkD_ok d
    have hlen := hk.len
    have hpos := hk.pos
    have him : imin ((mkD d).length : Int) 5 = ((min (mkD d).length 5 : Nat) : Int) := by
      simp only [imin]; omega
    have hck : ckO ((mkD d).take ((imin ((mkD d).length : Int) (5 : Int)).toNat)) = 0 := by
      rw [him, Int.toNat_natCast]
      exact ck_of (by rw [List.length_take]; omega) (by rw [List.length_take]; omega) fun o ho => by have := hk.all o (List.mem_of_mem_take ho); omega
    rw [decide_eq_true (by rw [him]; omega), chk_true]
    exact nine rfl hck (by rw [him, Int.toNat_natCast, List.length_take]; omega) _ 0 100 (Nat.zero_add _) (by
      have : 2 ^ ((mkD d).take ((imin ((mkD d).length : Int) (5 : Int)).toNat)).length ≤ 2 ^ 5 := Nat.pow_le_pow_right (by decide) (by rw [him, Int.toNat_natCast, List.length_take]; omega)
      omega)
  · cases h⟩
theorem K (y0 : List (List Int)) (_ : DT.wf (.sl (.arr 2 (.int .u8))) y0) : FnOk Try.prog 9 (F9 (fun d => if ∀ p ∈ d, u8p p then some true else none)) := KB9

set_option maxRecDepth 100000 in
theorem walk (w : World) (vs : List Value) (h : ArgsOk w [.sl (.arr 2 (.int .u8))] vs) : Calls Try.prog 9 vs.toArray w fun e w' => e = .returned (.bool true) ∧ Below w.heap.size w w' := by
  obtain ⟨v0, vs0, y0, rfl, w0, h0, k0⟩ := ArgsOk.cons h
  obtain rfl := ArgsOk.nil k0
  exact walkAll (K y0 w0) (xs := [.dv (.sl (.arr 2 (.int .u8))) y0]) (r := true) (if_pos (wfD w0)) rfl (HoldsAll.cons h0 HoldsAll.nil)

set_option maxRecDepth 100000 in
theorem lifted (os : Os) (started : os.Started) (H : Type) (enc : TypeId × Value → H) :
    ReturnsInHanded {} Try.checked os 9 .any (Rows.pressAddedSpec.pre6 enc Try.prog Try.f9 Rows.pressAddedRow.domain false) (Rows.pressAddedSpec.post enc Try.prog Try.f9 false true false false) :=
  lawShell (fn := Try.f9) (s := Rows.pressAddedSpec) (tb := 4) [.sl (.arr 2 (.int .u8))] Try.func9 (by kernel_rfl) (by kernel_rfl) (by kernel_rfl) Try.underlying4 (by kernel_rfl) os started H enc Rows.pressAddedRow.domain
    (fun ds hl => by
      match ds, hl with
      | [d0], _ => rfl)
    (ChangeSpec.witness6 (enc := enc) (C := Try.checked) false ⟨#[], #[.slice none 0 0], []⟩ 8 (by kernel_rfl) (by kernel_rfl) (by kernel_rfl) (by kernel_rfl)) walk

theorem over : Rows.pressAddedRow.holds Try.pinned (OpenSpec.ofChange Rows.pressAddedSpec) :=
  OpenClaim.holds_of_wide 9 Try.f9 rfl rfl rfl rfl rfl rfl rfl ⟨rfl, rfl, rfl, rfl, rfl⟩ rfl rfl rfl rfl rfl (by kernel_rfl) Try.func9 (by kernel_rfl)
    (of_decide_eq_true (by kernel_rfl)) (by unfold Func.isWrapper; first | (rw [if_pos (by decide +kernel)]; kernel_rfl) | (rw [if_neg (by decide +kernel)]; exact ⟨rfl, rfl⟩))
    (fun os started H enc _ => lifted os started H enc)

/-- THE STATEMENT. -/
theorem proved : Rows.PressAddedSaid := over

end Go.Proofs.Ytbblnbolabpfmaa.pressAdded
