/-
  A coalition can make as many copies as stated; mixing again.
-/
import Derived.Test.YtbjfbbfglkmadaaDoorX3
import Derived.Test.YtbjfbbfglkmadaaDoorM12
import Derived.Test.YtbjfbbfglkmadaaDoorM13
import Derived.Test.YtbjfbbfglkmadaaDoorQ11
namespace Go.Proofs.YtbjfbbfglkmadaaDoor
open Go.RowKit
set_option linter.unusedVariables false

def okR (S : Nat → Int → Bool) : Nat → List Int → Bool
  | _, [] => true
  | k, d :: r => S k d && okR S (k + 1) r
theorem okR_all (S : Nat → Int → Bool) : ∀ (w : List Int) (k : Nat), okR S k w = (List.range' 0 w.length).all fun j => S (k + j) (w.getD j 0)
  | [], k => rfl
  | d :: r, k => by
    rw [okR, okR_all S r (k + 1), List.length_cons, List.range'_succ, List.all_cons, List.range'_eq_map_range, List.range'_eq_map_range, List.all_map, List.all_map]
    congr 1
    congr 1
    funext j
    simp only [Function.comp, List.getD_cons_succ, Nat.zero_add]
    rw [show k + 1 + j = k + (0 + 1 + j) by omega, show 0 + 1 + j = j + 1 by omega, List.getD_cons_succ]
theorem cnt_row (p : Int → Bool) (r : List Int) (b : Bool) : ∀ (n j : Nat), (((List.range' j n).map fun (m : Nat) => (m : Int) :: r).filter fun w => p (w.getD 0 0) && b).length = cond b (cntF p n (j : Int)) 0
  | 0, j => by cases b <;> rfl
  | n + 1, j => by
    have ih := cnt_row p r b n (j + 1)
    rw [List.range'_succ, List.map_cons, List.filter_cons]
    show (((if (p (j : Int) && b) = true then _ else _ : List (List Int)).length : Nat) : Int) = _
    rw [cntF, show ((j : Int) + 1) = ((j + 1 : Nat) : Int) by omega]
    cases hp : p (j : Int) with
    | false => rw [Bool.false_and, if_neg (by decide), ih]; rfl
    | true =>
      cases b with
      | false => rw [Bool.and_false, if_neg (by decide), ih]; rfl
      | true =>
        rw [Bool.and_true, if_pos rfl, List.length_cons, cond_true, cond_true]
        rw [cond_true] at ih
        omega
theorem cnt_wds (S : Nat → Int → Bool) (M : Nat) : ∀ (n t : Nat) (s : Int), prF (fun k => cntF (S k) M 0) t n s = s * (((wds M n).filter (okR S t)).length : Nat)
  | 0, t, s => by
    rw [prF_zero]
    show s = s * ((1 : Nat) : Int)
    omega
  | n + 1, t, s => by
    rw [prF_succ, cnt_wds S M n (t + 1), wds, Int.mul_assoc]
    congr 1
    have : ∀ L : List (List Int), (((L.flatMap fun r => (List.range' 0 M).map fun (m : Nat) => (m : Int) :: r).filter (okR S t)).length : Int) = cntF (S t) M 0 * ((L.filter (okR S (t + 1))).length : Nat) := by
      intro L
      induction L with
      | nil => simp
      | cons r L ih =>
        rw [List.flatMap_cons, List.filter_append, List.length_append, Int.natCast_add, ih, List.filter_cons]
        have h1 : (((List.range' 0 M).map fun (m : Nat) => (m : Int) :: r).filter (okR S t)) = (((List.range' 0 M).map fun (m : Nat) => (m : Int) :: r).filter fun w => S t (w.getD 0 0) && okR S (t + 1) r) := by
          refine List.filter_congr fun w hw => ?_
          obtain ⟨m, _, rfl⟩ := List.mem_map.1 hw
          rfl
        rw [h1, cnt_row (S t) r (okR S (t + 1) r) M 0]
        cases okR S (t + 1) r with
        | false => rw [cond_false, if_neg (by decide)]; omega
        | true => rw [cond_true, if_pos rfl, List.length_cons, Int.natCast_add, Int.mul_add]; simp; omega
    exact (this (wds M n)).symm
def cps (c : Cd) (l : List Int) : List (List Int) := (wds c.1.toNat (sz c)).filter fun w => mk c l w
theorem cps_len {c : Cd} {l : List Int} (hc : cdE c = 0) (hco : coE c l = 0) : cpN c l = ((cps c l).length : Int) := by
  rw [cp_eq hc hco]
  have h := cnt_wds (hasM c l) c.1.toNat (sz c) 0 1
  rw [Int.one_mul] at h
  refine h.trans ?_
  congr 2
  refine List.filter_congr fun w hw => ?_
  rw [okR_all, mk, List.range_eq_range']
  congr 1; funext j
  rw [Nat.zero_add]; rfl
def B47c (w : List Int) (p1 : List Cd) (a n b : Int) (x y : List (List Int)) : Option (List (List Int) × List (List Int) × List Int × List Cd × Int × Int × Int) :=
  if (cdE (p1.getD 0 dC) = 0 ∧ w.length = sz (p1.getD 0 dC)) ∧ (0 ≤ a ∧ a < 4611686018427387904) ∧ (0 ≤ b ∧ b < 4611686018427387904) ∧ (x.length ≤ 100000 ∧ y.length ≤ 100000) ∧ 0 ≤ n ∧ n ≤ 100000 then
    some (cond (mk (p1.getD 0 dC) (bs (p1.getD 0 dC).2.1.length a.toNat) w) (x ++ [w]) x, cond (mk (p1.getD 0 dC) (bs (p1.getD 0 dC).2.1.length b.toNat) w) (y ++ [w]) y, w, p1, a, cond (mk (p1.getD 0 dC) (bs (p1.getD 0 dC).2.1.length a.toNat) w) (n + 1) n, b) else none
theorem KB47c : FnOk Tryd.prog 47 (F47c B47c) := ok47c B45 KB45 B47c fun w p1 a n b x y r h => ⟨0, by
  simp only [B47c] at h
  split at h
  · rename_i hh
    obtain ⟨⟨h1, h2⟩, h3, h4, ⟨h5, h6⟩, h7⟩ := hh
    have hz := (cdE_ok h1).2.2.1
    have ea : B45 (p1.getD 0 dC) a w = some (mk (p1.getD 0 dC) (bs (p1.getD 0 dC).2.1.length a.toNat) w) := if_pos ⟨h1, h3, h2⟩
    have eb : B45 (p1.getD 0 dC) b w = some (mk (p1.getD 0 dC) (bs (p1.getD 0 dC).2.1.length b.toNat) w) := if_pos ⟨h1, h4, h2⟩
    rw [← h, m47c]
    rw [show B45 (p1.getD 0 (0, ([], ()))) a w = _ from ea, show B45 (p1.getD 0 (0, ([], ()))) b w = _ from eb]
    rw [Option.bind_some, Option.bind_some, List.nil_append]
    cases mk (p1.getD 0 dC) (bs (p1.getD 0 dC).2.1.length a.toNat) w <;> cases mk (p1.getD 0 dC) (bs (p1.getD 0 dC).2.1.length b.toNat) w
    · rfl
    · simp only [cond_false, cond_true]; rw [chk_of (small_of (by omega) (by decide)), chk_of (small_of (by omega) (by decide))]; rfl
    · simp only [cond_false, cond_true]; rw [chk_of (small_of (by omega) (by decide)), chk_of (small_of (by omega) (by decide)), w64_small (by omega)]
    · simp only [cond_true]; rw [chk_of (small_of (by omega) (by decide)), chk_of (small_of (by omega) (by decide)), chk_of (small_of (by omega) (by decide)), chk_of (small_of (by omega) (by decide)), w64_small (by omega)]
  · cases h⟩
abbrev St47 := List (List Int) × List (List Int) × Int
def st47 (c : Cd) (a b : Nat) (s : St47) (w : List Int) : St47 := (cond (mk c (bs c.2.1.length a) w) (s.1 ++ [w]) s.1, cond (mk c (bs c.2.1.length b) w) (s.2.1 ++ [w]) s.2.1, cond (mk c (bs c.2.1.length a) w) (s.2.2 + 1) s.2.2)
theorem st47_fold (c : Cd) (a b : Nat) : ∀ (L : List (List Int)) (s : St47), L.foldl (st47 c a b) s = (s.1 ++ L.filter (fun w => mk c (bs c.2.1.length a) w), s.2.1 ++ L.filter (fun w => mk c (bs c.2.1.length b) w), s.2.2 + ((L.filter (fun w => mk c (bs c.2.1.length a) w)).length : Nat))
  | [], s => by simp
  | w :: r, s => by
    rw [List.foldl_cons, st47_fold c a b r, List.filter_cons, List.filter_cons, st47]
    cases mk c (bs c.2.1.length a) w <;> cases mk c (bs c.2.1.length b) w <;> simp <;> omega
def B41c47 (c : Cd) (p1 : List Cd) (a n b : Int) (x y : List (List Int)) : Option (List (List Int) × List (List Int) × List Cd × Int × Int × Int) :=
  if (cdE c = 0 ∧ p1 = [c]) ∧ (0 ≤ a ∧ a < 4611686018427387904) ∧ (0 ≤ b ∧ b < 4611686018427387904) ∧ (n = 0 ∧ x = [] ∧ y = []) ∧ sz c ≤ 4 ∧ c.1 ≤ 3 then
    some (cps c (bs c.2.1.length a.toNat), cps c (bs c.2.1.length b.toNat), [c], a, ((cps c (bs c.2.1.length a.toNat)).length : Int), b) else none
theorem pow_le {M n : Nat} (h1 : M ≤ 3) (h2 : n ≤ 4) : M ^ n ≤ 81 := Nat.le_trans (Nat.pow_le_pow_left h1 n) (Nat.pow_le_pow_right (by decide) h2 : 3 ^ n ≤ 3 ^ 4)
theorem KB41c47 : FnOk Tryd.prog 41 (F41c47 B41c47) := ok41c47 B47c KB47c B41c47 fun c p1 a n b x y r h => ⟨101, by
  simp only [B41c47] at h
  split at h
  · rename_i hh
    obtain ⟨⟨hc, rfl⟩, ha, hb, ⟨rfl, rfl, rfl⟩, hz4, hM3⟩ := hh
    obtain ⟨hm, hn, hz, hlen, hbd⟩ := cdE_ok hc
    obtain ⟨M, hM⟩ : ∃ M : Nat, c.1 = M := ⟨c.1.toNat, by omega⟩
    obtain ⟨a, rfl⟩ : ∃ j : Nat, a = j := ⟨a.toNat, by omega⟩
    obtain ⟨b, rfl⟩ : ∃ j : Nat, b = j := ⟨b.toNat, by omega⟩
    rw [← h, m41c47, chk_dec (by omega), show (c.2.1.getD 0 []).length = sz c from rfl, chk_of (by simp [mkOk]; omega), Int.toNat_natCast, Int.toNat_natCast, Int.toNat_natCast]
    obtain ⟨Y, hY⟩ := wds_head (M := M) (by omega) (sz c)
    have hch := wds_chn (M := M) (by omega) (sz c)
    have hwl := wds_len M (sz c)
    have hpw := pow_le (M := M) (n := sz c) (by omega) hz4
    have hmem : ∀ w ∈ wds M (sz c), w.length = sz c ∧ ∀ m ∈ w, 0 ≤ m ∧ m < (M : Int) := fun w hw => wds_mem.1 hw
    rw [hY] at hch hwl hmem
    have main := all_words (M := M) (L := fun n (s : St47) o => l41c47a B47c 101 c n s.1 s.2.1 [c] (a : Int) s.2.2 (b : Int) o) (step := st47 c a b) (fin := fun s => (s.1, s.2.1, [c], (a : Int), s.2.2, (b : Int)))
      (I := fun k s => s.1.length + k ≤ 1000 ∧ s.2.1.length + k ≤ 1000 ∧ 0 ≤ s.2.2 ∧ s.2.2 + k ≤ 1000) (W := fun w => w.length = sz c ∧ ∀ m ∈ w, 0 ≤ m ∧ m < (M : Int))
      (fun n k s o hI hW => ?_) (fun k s o hI => ?_) Y (List.replicate (sz c) 0) 101 ([], [], 0) hch (by simp only [List.length_cons] at hwl; omega) (by simp only [List.length_cons] at hwl; simp only [List.length_nil]; omega) hmem
    · refine main.trans ?_
      rw [← hY, st47_fold]
      simp only [List.nil_append, cps, hM, Int.toNat_natCast, Int.zero_add]
    · obtain ⟨x, y, q⟩ := s
      obtain ⟨i1, i2, i3, i4⟩ := hI
      simp only at i1 i2 i3 i4
      have e47 : B47c o [c] (a : Int) q (b : Int) x y = some (cond (mk c (bs c.2.1.length a) o) (x ++ [o]) x, cond (mk c (bs c.2.1.length b) o) (y ++ [o]) y, o, [c], (a : Int), cond (mk c (bs c.2.1.length a) o) (q + 1) q, (b : Int)) := by
        rw [B47c, if_pos ⟨⟨hc, hW.1⟩, ha, hb, ⟨by omega, by omega⟩, i3, by omega⟩, Int.toNat_natCast, Int.toNat_natCast]; rfl
      show l41c47a B47c 101 c (n + 1) x y [c] (a : Int) q (b : Int) o = _
      rw [l41c47a, e47, Option.bind_some]
      have hl2 := nxt_loop (M := M) (P := sz c) (L := fun n' k o' => l41c47b B47c 101 c (cond (mk c (bs c.2.1.length a) o) (x ++ [o]) x, cond (mk c (bs c.2.1.length b) o) (y ++ [o]) y, o, [c], (a : Int), cond (mk c (bs c.2.1.length a) o) (q + 1) q, (b : Int)) (fun y0 y1 y2 y3 y4 y5 y6 => l41c47a B47c 101 c n y0 y1 y2 y3 y4 y5 y6) n' k o')
        (ret := some (cond (mk c (bs c.2.1.length a) o) (x ++ [o]) x, cond (mk c (bs c.2.1.length b) o) (y ++ [o]) y, [c], (a : Int), cond (mk c (bs c.2.1.length a) o) (q + 1) q, (b : Int)))
        (rec := fun o' => l41c47a B47c 101 c n (cond (mk c (bs c.2.1.length a) o) (x ++ [o]) x) (cond (mk c (bs c.2.1.length b) o) (y ++ [o]) y) [c] (a : Int) (cond (mk c (bs c.2.1.length a) o) (q + 1) q) (b : Int) o') (by omega) (fun n' k' o' ho hk => ?_) (by omega) o 0 101 (by omega) (by omega) hW.2
      · rw [List.replicate_zero, List.nil_append] at hl2
        refine hl2.trans ?_
        cases nxt M o with
        | none => rfl
        | some o' => rfl
      · show l41c47b _ _ _ _ _ _ _ _ = _
        rw [l41c47b]
        dsimp only
        rw [ho, hM, w64_small (x := (M : Int) - 1) (by omega), beqDec]
        by_cases hkp : k' < sz c
        · rw [ixA hkp, cond_true, ixB hkp, chk_true, decide_eq_true hkp, cond_true, Int.toNat_natCast, beqDec]
          cases decide (o'.getD k' 0 = (M : Int) - 1) with
          | true => rw [cond_true, cond_true, chk_true, ixW hkp (by omega)]
          | false => rw [cond_false, cond_false, decide_eq_false (show ¬ (k' : Int) = (sz c : Int) by omega), cond_false, chk_true, chk_true]
        · have : k' = sz c := by omega
          subst this
          rw [ixE, cond_false, decide_eq_false (Nat.lt_irrefl _), cond_false, show ((sz c : Int) == (sz c : Int)) = true by simp, cond_true]
    · obtain ⟨x, y, q⟩ := s
      obtain ⟨i1, i2, i3, i4⟩ := hI
      simp only at i1 i2 i3 i4
      simp only [st47]
      cases mk c (bs c.2.1.length a) o <;> cases mk c (bs c.2.1.length b) o <;> simp <;> omega
  · cases h⟩
theorem mk_at {c : Cd} {l w : List Int} : mk c l w = true ↔ ∀ k, k < w.length → ∃ i ∈ l, (c.2.1.getD i.toNat []).getD k 0 = w.getD k 0 := by
  rw [mk, List.all_eq_true]
  constructor
  · intro h k hk
    obtain ⟨i, hi, he⟩ := List.any_eq_true.1 (h k (List.mem_range.2 hk))
    exact ⟨i, hi, of_decide_eq_true he⟩
  · intro h k hk
    obtain ⟨i, hi, he⟩ := h k (List.mem_range.1 hk)
    exact List.any_eq_true.2 ⟨i, hi, decide_eq_true he⟩
theorem mk_mono {c : Cd} {l l' w : List Int} (h : ∀ i ∈ l, i ∈ l') (hm : mk c l w = true) : mk c l' w = true := by
  rw [mk_at] at hm ⊢
  exact fun k hk => by obtain ⟨i, hi, he⟩ := hm k hk; exact ⟨i, h i hi, he⟩
theorem bs_or {N a b : Nat} {i : Int} (h : i ∈ bs N a ∨ i ∈ bs N b) : i ∈ bs N (a ||| b) := by
  rw [bs_mem, bs_mem] at h
  rw [bs_mem, Nat.testBit_or, Bool.or_eq_true]
  rcases h with ⟨h1, h2, h3⟩ | ⟨h1, h2, h3⟩
  · exact ⟨h1, h2, .inl h3⟩
  · exact ⟨h1, h2, .inr h3⟩
theorem getD_set {α : Type} {l : List α} {t k : Nat} {x d : α} (ht : t < l.length) : (l.set t x).getD k d = if t = k then x else l.getD k d := by
  rw [List.getD_eq_getElem?_getD, List.getElem?_set, List.getD_eq_getElem?_getD]
  by_cases h : t = k
  · rw [if_pos h, if_pos h, if_pos (by omega)]; rfl
  · rw [if_neg h, if_neg h]
theorem setBy {N : Nat} {one : Int} (h1 : 1 ≤ N) (hN : N ≤ 5) (h : 0 ≤ one ∧ one ≤ 255) : ∃ a : Nat, 0 < a ∧ a < 2 ^ N ∧ w64 (1 + Int.tmod (w64 one) (w64 (((2 ^ N : Nat) : Int) - 1))) = (a : Int) := by
  have h2N : 2 ^ N ≤ 2 ^ 5 := Nat.pow_le_pow_right (by decide) hN
  have h2N1 : 2 ^ 1 ≤ 2 ^ N := Nat.pow_le_pow_right (by decide) h1
  have e1 := Int.emod_nonneg one (show ((2 ^ N : Nat) : Int) - 1 ≠ 0 by omega)
  have e2 := Int.emod_lt_of_pos one (show 0 < ((2 ^ N : Nat) : Int) - 1 by omega)
  refine ⟨(1 + one % (((2 ^ N : Nat) : Int) - 1)).toNat, by omega, by omega, ?_⟩
  rw [w64_small (x := one) (by omega), w64_small (x := ((2 ^ N : Nat) : Int) - 1) (by omega), tmod_emod h.1, w64_small (by omega)]
  omega
def okB2 (w : List Int) : Bool := decide (w.length = 2) && w.all fun m => decide (0 ≤ m ∧ m ≤ 255)
theorem okB2_at {w : List Int} (h : okB2 w = true) : w.length = 2 ∧ ∀ m ∈ w, 0 ≤ m ∧ m ≤ 255 := by simpa [okB2] using h
def B11 (s : Sh) (one two mix : Int) (by2 : List Int) : Option Bool := if okSh s = true ∧ (0 ≤ one ∧ one ≤ 255) ∧ (0 ≤ two ∧ two ≤ 255) ∧ (0 ≤ mix ∧ mix ≤ 255) ∧ okB2 by2 = true then some true else none
theorem KB11 : FnOk Tryd.prog 11 (F11 B11) := ok11 (some true) B18 B20 B40 B41c47 B44 K15t KB18 KB20 KB40 KB41c47 KB44 B11 fun s one two mix by2 r h => ⟨41, by
  simp only [B11] at h
  split at h
  · rename_i hh
    obtain ⟨hs, h1, h2, hmx, hb⟩ := hh
    obtain ⟨hb2, hbr⟩ := okB2_at hb
    obtain ⟨hc, hsm, hn, hsz, hM, hP⟩ := mdC_ok hs
    rw [← h, m11, B40, if_pos hs, Option.bind_some]
    generalize hC : mdC s = c at *
    obtain ⟨_, _, hz, hlen, hbd⟩ := cdE_ok hc
    have h2N : 2 ^ c.2.1.length ≤ 2 ^ 5 := Nat.pow_le_pow_right (by decide) hn.2
    have h2N1 : 2 ^ 1 ≤ 2 ^ c.2.1.length := Nat.pow_le_pow_right (by decide) hn.1
    obtain ⟨a, a0, a1, ea⟩ := setBy hn.1 hn.2 h1
    obtain ⟨b, b0, b1, eb⟩ := setBy hn.1 hn.2 h2
    rw [one_i64 (show c.2.1.length < 62 by omega), ea, eb, chk_dec (by omega), chk_dec (by rw [w64_small (by omega)]; omega), chk_dec (by omega), chk_dec (by rw [w64_small (by omega)]; omega)]
    have e41 : B41c47 c [c] (a : Int) 0 (b : Int) [] [] = some (cps c (bs c.2.1.length a), cps c (bs c.2.1.length b), [c], (a : Int), ((cps c (bs c.2.1.length a)).length : Int), (b : Int)) := by
      rw [B41c47, if_pos ⟨⟨hc, rfl⟩, by omega, by omega, ⟨rfl, rfl, rfl⟩, by omega, by omega⟩, Int.toNat_natCast, Int.toNat_natCast]
    have hab : a ||| b < 2 ^ c.2.1.length := Nat.or_lt_two_pow a1 b1
    have hor : bOr .i64 (a : Int) (b : Int) = ((a ||| b : Nat) : Int) := bOr_i64 (by omega) (by omega)
    have e44 : ∀ q : Nat, q < 2 ^ c.2.1.length → B44 (q : Int) = some (bs c.2.1.length q) := fun q hq => by rw [B44, if_pos (by omega), Int.toNat_natCast, bs_10 hq (by omega)]
    have hco : ∀ q : Nat, 0 < q → q < 2 ^ c.2.1.length → isCo c.2.1.length 10 (bs c.2.1.length q) := fun q h0 h1 => (isCo_bs h0 h1).2 (by have := bs_le (N := c.2.1.length) (s := q); omega)
    have hab0 : 0 < a ||| b := Nat.lt_of_lt_of_le a0 Nat.left_le_or
    have e18 : ∀ q : Nat, 0 < q → q < 2 ^ c.2.1.length → B18 c (bs c.2.1.length q) = some (((cps c (bs c.2.1.length q)).length : Int), 0) := fun q h0 h1 => by
      have hce := coE_of (hco q h0 h1)
      rw [B18, if_pos ⟨hsm, by have := bs_le (N := c.2.1.length) (s := q); omega⟩, decide_eq_true hc, cond_true, decide_eq_true hce, cond_true, cps_len hc hce]
    have hsub : (cps c (bs c.2.1.length a)).length ≤ (cps c (bs c.2.1.length (a ||| b))).length := by
      unfold cps
      rw [← List.countP_eq_length_filter, ← List.countP_eq_length_filter]
      exact List.countP_mono_left fun w _ hw => mk_mono (fun i hi => bs_or (.inl hi)) hw
    -- a copy for each
    have hex : ∀ q : Nat, 0 < q → q < 2 ^ c.2.1.length → 0 < (cps c (bs c.2.1.length q)).length := fun q h0 h1 => by
      have hq := hco q h0 h1
      have hi := hq.2.2.2 _ (getD_mem (l := bs c.2.1.length q) (d := 0) (isCo_ne hq))
      have hw := getD_mem (l := c.2.1) (d := []) (show ((bs c.2.1.length q).getD 0 0).toNat < c.2.1.length by omega)
      refine List.length_pos_of_mem (a := c.2.1.getD ((bs c.2.1.length q).getD 0 0).toNat []) (List.mem_filter.2 ⟨wds_mem.2 ⟨hlen _ hw, fun m hm => ?_⟩, mk_at.2 fun k _ => ⟨_, getD_mem (isCo_ne hq), rfl⟩⟩)
      have := hbd _ hw m hm
      omega
    have xa := hex a a0 a1
    have xb := hex b b0 b1
    rw [e41, Option.bind_some]
    dsimp only
    rw [e44 a a1, Option.bind_some, hor, e44 _ hab]
    rw [show ([c] : List Cd).getD 0 (0, ([], ())) = c from rfl, e18 a a0 a1, Option.bind_some, Option.bind_some, e18 _ hab0 hab, Option.bind_some]
    dsimp only
    rw [show ((0 : Int) != 0) = false from rfl, cond_false, cond_false, show (((cps c (bs c.2.1.length a)).length : Int) != ((cps c (bs c.2.1.length a)).length : Int)) = false by simp, cond_false, decide_eq_false (by omega), cond_false]
    have i0 := hbr _ (getD_mem (l := by2) (d := 0) (show 0 < by2.length by omega))
    have i1 := hbr _ (getD_mem (l := by2) (d := 0) (show 1 < by2.length by omega))
    have m1 := Int.emod_nonneg (by2.getD 0 0) (show ((cps c (bs c.2.1.length a)).length : Int) ≠ 0 by omega)
    have m2 := Int.emod_lt_of_pos (by2.getD 0 0) (show (0 : Int) < ((cps c (bs c.2.1.length a)).length : Int) by omega)
    have m3 := Int.emod_nonneg (by2.getD 1 0) (show ((cps c (bs c.2.1.length b)).length : Int) ≠ 0 by omega)
    have m4 := Int.emod_lt_of_pos (by2.getD 1 0) (show (0 : Int) < ((cps c (bs c.2.1.length b)).length : Int) by omega)
    have em1 : Int.tmod (w64 (by2.getD 0 0)) ((cps c (bs c.2.1.length a)).length : Int) = by2.getD 0 0 % ((cps c (bs c.2.1.length a)).length : Int) := by rw [w64_small (by omega), tmod_emod i0.1]
    have em2 : Int.tmod (w64 (by2.getD 1 0)) ((cps c (bs c.2.1.length b)).length : Int) = by2.getD 1 0 % ((cps c (bs c.2.1.length b)).length : Int) := by rw [w64_small (by omega), tmod_emod i1.1]
    have hu : (cps c (bs c.2.1.length a)).getD (by2.getD 0 0 % ((cps c (bs c.2.1.length a)).length : Int)).toNat [] ∈ cps c (bs c.2.1.length a) := getD_mem (by omega)
    have hv : (cps c (bs c.2.1.length b)).getD (by2.getD 1 0 % ((cps c (bs c.2.1.length b)).length : Int)).toNat [] ∈ cps c (bs c.2.1.length b) := getD_mem (by omega)
    obtain ⟨u1, u2⟩ := List.mem_filter.1 hu
    obtain ⟨v1, v2⟩ := List.mem_filter.1 hv
    obtain ⟨u3, u4⟩ := wds_mem.1 u1
    obtain ⟨v3, v4⟩ := wds_mem.1 v1
    rw [em1, em2, chk_dec (by omega), chk_dec (by omega), chk_dec (by omega), chk_dec (by omega), chk_of (small_of (by omega) (by decide)), List.nil_append]
    generalize hU : (cps c (bs c.2.1.length a)).getD (by2.getD 0 0 % ((cps c (bs c.2.1.length a)).length : Int)).toNat [] = u at *
    generalize hV : (cps c (bs c.2.1.length b)).getD (by2.getD 1 0 % ((cps c (bs c.2.1.length b)).length : Int)).toNat [] = v at *
    obtain ⟨mx, rfl⟩ : ∃ j : Nat, mix = j := ⟨mix.toNat, by omega⟩
    refine countP' 0 (u.length : Int) (by omega) (fun n o t => l11a (some true) B18 B20 B40 B41c47 B44 41 (mx : Int) by2 (cps c (bs c.2.1.length a), cps c (bs c.2.1.length b), [c], (a : Int), ((cps c (bs c.2.1.length a)).length : Int), (b : Int)) n t o) (fun t o => o.length = u.length ∧ ∀ k, o.getD k 0 = u.getD k 0 ∨ o.getD k 0 = v.getD k 0) (fun r => r = some true) (fun n o t a2 b2 hI ih => ?_) (fun n o hI => ?_) 41 u (by omega) ⟨rfl, fun k => .inl rfl⟩
    · obtain ⟨t, rfl⟩ : ∃ j : Nat, t = j := ⟨t.toNat, by omega⟩
      obtain ⟨j1, j2⟩ := hI
      have ht : t < u.length := by omega
      have hbt := bit_u8 (s := mx) (c := t) (by omega) (by omega)
      rw [l11a]
      dsimp only
      rw [em1, em2, hU, hV, List.nil_append, decide_eq_true b2, cond_true, chk_dec a2, hbt, ixW ht (by omega), Int.toNat_natCast]
      have go : ∀ o' : List Int, (o'.length = u.length ∧ ∀ k, o'.getD k 0 = u.getD k 0 ∨ o'.getD k 0 = v.getD k 0) → l11a (some true) B18 B20 B40 B41c47 B44 41 (mx : Int) by2 (cps c (bs c.2.1.length a), cps c (bs c.2.1.length b), [c], (a : Int), ((cps c (bs c.2.1.length a)).length : Int), (b : Int)) n ((t + 1 : Nat) : Int) o' = some true := fun o' ho => by
        have := ih o' ho
        rw [show ((t : Int) + 1) = ((t + 1 : Nat) : Int) by omega] at this
        exact this
      cases mx.testBit t with
      | false => rw [cond_false]; exact go o ⟨j1, j2⟩
      | true =>
        rw [cond_true, chk_dec (by omega), chk_dec (by omega)]
        refine go _ ⟨by rw [List.length_set]; exact j1, fun k => ?_⟩
        rw [getD_set (by omega)]
        by_cases hk : t = k
        · rw [if_pos hk, hk]; exact .inr rfl
        · rw [if_neg hk]; exact j2 k
    · obtain ⟨j1, j2⟩ := hI
      have hmk : mk c (bs c.2.1.length (a ||| b)) o = true := mk_at.2 fun k hk => by
        rcases j2 k with e | e
        · obtain ⟨i, hi, he⟩ := mk_at.1 u2 k (by omega)
          exact ⟨i, bs_or (.inl hi), by rw [e]; exact he⟩
        · obtain ⟨i, hi, he⟩ := mk_at.1 v2 k (by omega)
          exact ⟨i, bs_or (.inr hi), by rw [e]; exact he⟩
      have hwe : wE c o = 0 := by
        rw [wE, decide_eq_true (show o.length = sz c by omega), cond_true]
        have : o.any (outM c.1) = false := List.any_eq_false.2 fun m hm => by
          obtain ⟨k, hk, hkm⟩ := List.getElem_of_mem hm
          have hg : o.getD k 0 = m := by rw [List.getD_eq_getElem?_getD, List.getElem?_eq_getElem hk]; exact hkm
          have hr : 0 ≤ m ∧ m < (c.1.toNat : Int) := by
            rcases j2 k with e | e
            · rw [← hg, e]; exact u4 _ (getD_mem (by omega))
            · rw [← hg, e]; exact v4 _ (getD_mem (by omega))
          simp only [outM, Bool.not_eq_true, Bool.not_eq_false', decide_eq_true_eq]
          rw [w64_small (by omega)]; omega
        rw [this]; rfl
      have e20 : B20 c (bs c.2.1.length (a ||| b)) o = some 0 := by
        rw [B20, if_pos ⟨hsm, by have := bs_le (N := c.2.1.length) (s := a ||| b); omega, by omega⟩, maE, decide_eq_true hc, cond_true, decide_eq_true (coE_of (hco _ hab0 hab)), cond_true, decide_eq_true hwe, cond_true, hmk]; rfl
      rw [l11a]
      dsimp only
      rw [em1, hU, List.nil_append, decide_eq_false (Int.lt_irrefl _), cond_false, hor, e44 _ hab, Option.bind_some, show ([c] : List Cd).getD 0 (0, ([], ())) = c from rfl, e20]; rfl
  · cases h⟩
end Go.Proofs.YtbjfbbfglkmadaaDoor
