/-
  A code convicts just if for each copy that one or two can make somebody stands in all that can.
-/
import Derived.Test.YtbjfbbfglkmadaaDoorX4
import Derived.Test.YtbjfbbfglkmadaaDoorX6
import Derived.Test.YtbjfbbfglkmadaaDoorQ7
namespace Go.Proofs.YtbjfbbfglkmadaaDoor
open Go.RowKit
set_option linter.unusedVariables false

theorem cwE_of {c : Cd} {w : List Int} (hc : cdE c = 0) (hw : w.length = sz c) (hr : ∀ m ∈ w, 0 ≤ m ∧ m < c.1) : cwE c w = 0 := by
  have hm := (cdE_ok hc).1
  rw [cwE, decide_eq_true hc, cond_true, wE, decide_eq_true hw, cond_true]
  have : w.any (outM c.1) = false := List.any_eq_false.2 fun m hmm => by
    have := hr m hmm
    simp only [outM, Bool.not_eq_true, Bool.not_eq_false', decide_eq_true_eq]
    rw [w64_small (by omega)]; omega
  rw [this]; rfl
theorem gu_two {c : Cd} {w : List Int} (hw : cwE c w = 0) : guV c w 2 = cond (guA c w 2).2 (gl c w 2, 0) ([], 14) := by
  obtain ⟨hc, hwe⟩ := cwE_ok hw
  have hz := (cdE_ok hc).2.2.1
  have hwl := (wE_ok hwe hc).1
  rw [guV, decide_eq_true hw, cond_true, decide_eq_true (show (1 : Int) ≤ 2 ∧ (2 : Int) ≤ 10 by decide), cond_true]
  have h1 := guA_found (c := c) (w := w) (z := 2) (by decide)
  have h2 := lnL_ne (c := c) (w := w) (z := 2) (by omega)
  cases e : (guA c w 2).2 with
  | true => rw [decide_eq_false (h2.2 (h1.1 e))]; rfl
  | false =>
    rw [decide_eq_true (Classical.byContradiction fun h => by rw [h1.2 (h2.1 h)] at e; cases e)]; rfl
theorem gl_len {c : Cd} {w : List Int} (hn : c.2.1.length ≤ 10) : (gl c w 2).length ≤ 10 := by
  have := rise_len (lo := 0) (N := c.2.1.length) (gl_rise c w 2) fun e he => by
    have := (glF_mem.1 he).1
    omega
  omega
def B42c (w : List Int) (p1 : List Cd) (p2 p3 : Bool) : Option (List Int × List Cd × Bool × Bool) :=
  if smB (p1.getD 0 dC) = true ∧ cwE (p1.getD 0 dC) w = 0 then some (w, p1, p2 && cvW (p1.getD 0 dC) w, p3) else none
theorem KB42c : FnOk Tryd.prog 42 (F42c B42c) := ok42c B28c B32 B43 B44 KB28c KB32 KB43 KB44 B42c fun w p1 p2 p3 r h => ⟨0, by
  simp only [B42c] at h
  split at h
  · rename_i hh
    obtain ⟨hs, hw⟩ := hh
    have hc := (cwE_ok hw).1
    have hwe := (cwE_ok hw).2
    have hn := (cdE_ok hc).2.1
    have hz := (cdE_ok hc).2.2.1
    have hwl := (wE_ok hwe hc).1
    rw [← h, m42c]
    have e43 : B43 (p1.getD 0 dC) w 2 = some (((guA (p1.getD 0 dC) w 2).1 : Int), (guA (p1.getD 0 dC) w 2).2) := if_pos ⟨hc, hwl⟩
    have e28 : B28c (p1.getD 0 dC) 2 w = some ((guV (p1.getD 0 dC) w 2).1, (guV (p1.getD 0 dC) w 2).2, w) := if_pos ⟨hs, by omega⟩
    rw [gu_two hw] at e28
    rw [show B43 (p1.getD 0 (0, ([], ()))) w 2 = _ from e43, show B28c (p1.getD 0 (0, ([], ()))) 2 w = _ from e28]
    have hlt : (guA (p1.getD 0 dC) w 2).1 < 2 ^ (p1.getD 0 dC).2.1.length := guS_lt _
    have h2N : 2 ^ (p1.getD 0 dC).2.1.length ≤ 2 ^ 10 := Nat.pow_le_pow_right (by decide) hn.2
    have e44 : B44 ((guA (p1.getD 0 dC) w 2).1 : Int) = some (gl (p1.getD 0 dC) w 2) := by
      rw [B44, if_pos (by omega), Int.toNat_natCast, bs_10 hlt hn.2, guA_mem (by decide) (by omega)]
    have e32 : B32 (gl (p1.getD 0 dC) w 2) (gl (p1.getD 0 dC) w 2) = some true := by
      have := gl_len (c := p1.getD 0 dC) (w := w) hn.2
      rw [B32, if_pos (by omega), decide_eq_true rfl]
    simp only [Option.bind_some, e44, cvW]
    rw [show decide (((guA (p1.getD 0 dC) w 2).1 : Int) > 0) = decide (0 < (guA (p1.getD 0 dC) w 2).1) from decide_eq_decide.2 (by omega)]
    cases e : (guA (p1.getD 0 dC) w 2).2 with
    | false => cases p2 <;> cases p3 <;> rfl
    | true =>
      simp only [cond_true, e32, Option.bind_some]
      cases p2 <;> cases p3 <;> cases decide (0 < (guA (p1.getD 0 dC) w 2).1) <;> rfl
  · cases h⟩
def B41c42 (c : Cd) (p1 : List Cd) (p2 p3 : Bool) : Option (List Cd × Bool × Bool) :=
  if (cdE c = 0 ∧ p1 = [c]) ∧ smB c = true ∧ (p2 = true ∧ p3 = true) ∧ sz c ≤ 4 ∧ c.1 ≤ 3 then some ([c], cvA c, true) else none
theorem pow_le3 {M n : Nat} (h1 : M ≤ 3) (h2 : n ≤ 4) : M ^ n ≤ 81 := Nat.le_trans (Nat.pow_le_pow_left h1 n) (Nat.pow_le_pow_right (by decide) h2 : 3 ^ n ≤ 3 ^ 4)
theorem all_fold (p : List Int → Bool) : ∀ (L : List (List Int)) (b : Bool), L.foldl (fun b w => b && p w) b = (b && L.all p)
  | [], b => by simp
  | x :: r, b => by rw [List.foldl_cons, all_fold p r, List.all_cons, Bool.and_assoc]
theorem KB41c42 : FnOk Tryd.prog 41 (F41c42 B41c42) := ok41c42 B42c KB42c B41c42 fun c p1 p2 p3 r h => ⟨101, by
  simp only [B41c42] at h
  split at h
  · rename_i hh
    obtain ⟨⟨hc, rfl⟩, hs, ⟨rfl, rfl⟩, hz4, hM3⟩ := hh
    obtain ⟨hm, hn, hz, hlen, hbd⟩ := cdE_ok hc
    obtain ⟨M, hM⟩ : ∃ M : Nat, c.1 = M := ⟨c.1.toNat, by omega⟩
    rw [← h, m41c42, chk_dec (by omega), show (c.2.1.getD 0 []).length = sz c from rfl, chk_of (by simp [mkOk]; omega), Int.toNat_natCast]
    obtain ⟨Y, hY⟩ := wds_head (M := M) (by omega) (sz c)
    have hch := wds_chn (M := M) (by omega) (sz c)
    have hwl := wds_len M (sz c)
    have hpw := pow_le3 (M := M) (n := sz c) (by omega) hz4
    have hmem : ∀ w ∈ wds M (sz c), w.length = sz c ∧ ∀ m ∈ w, 0 ≤ m ∧ m < (M : Int) := fun w hw => wds_mem.1 hw
    have hall : cvA c = (wds M (sz c)).all (cvW c) := by rw [cvA, hM, Int.toNat_natCast]
    rw [hall]
    rw [hY] at hch hwl hmem ⊢
    have main := all_words (M := M) (L := fun n (s : Bool) o => l41c42a B42c 101 c n [c] s true o) (step := fun b w => b && cvW c w) (fin := fun s => ([c], s, true))
      (I := fun k s => True) (W := fun w => w.length = sz c ∧ ∀ m ∈ w, 0 ≤ m ∧ m < (M : Int))
      (fun n k s o hI hW => ?_) (fun k s o hI => trivial) Y (List.replicate (sz c) 0) 101 true hch (by simp only [List.length_cons] at hwl; omega) trivial hmem
    · refine main.trans ?_
      rw [all_fold, Bool.true_and]
    · have e42 : B42c o [c] s true = some (o, [c], s && cvW c o, true) := if_pos ⟨hs, cwE_of hc hW.1 fun m hm => by have := hW.2 m hm; show 0 ≤ m ∧ m < c.1; omega⟩
      show l41c42a B42c 101 c (n + 1) [c] s true o = _
      rw [l41c42a, e42, Option.bind_some]
      have hl2 := nxt_loop (M := M) (P := sz c) (L := fun n' k o' => l41c42b B42c 101 c (o, [c], s && cvW c o, true) (fun y0 y1 y2 y3 => l41c42a B42c 101 c n y0 y1 y2 y3) n' k o')
        (ret := some ([c], s && cvW c o, true))
        (rec := fun o' => l41c42a B42c 101 c n [c] (s && cvW c o) true o') (by omega) (fun n' k' o' ho hk => ?_) (by omega) o 0 101 (by omega) (by omega) hW.2
      · rw [List.replicate_zero, List.nil_append] at hl2
        refine hl2.trans ?_
        cases nxt M o with
        | none => rfl
        | some o' => rfl
      · show l41c42b _ _ _ _ _ _ _ _ = _
        rw [l41c42b]
        dsimp only
        rw [ho, hM, w64_small (x := (M : Int) - 1) (by omega), beqDec]
        by_cases hkp : k' < sz c
        · rw [ixA hkp, cond_true, ixB hkp, chk_true, decide_eq_true hkp, cond_true, Int.toNat_natCast, beqDec]
          cases decide (o'.getD k' 0 = (M : Int) - 1) with
          | true => rw [cond_true, cond_true, chk_true, ixW hkp (by omega)]
          | false => rw [cond_false, cond_false, decide_eq_false (show ¬ (k' : Int) = (sz c : Int) by omega), cond_false, chk_true, chk_true]
        · have : k' = sz c := by omega
          subst this
          rw [ixE, cond_false, decide_eq_false (Nat.lt_irrefl _), cond_false, show ((sz c : Int) == (sz c : Int)) = true by simp, cond_true]
  · cases h⟩
theorem dbV_word {c : Cd} (hc : cdE c = 0) : (cvA c = true ∧ dbV c = (([], [], ()), 14)) ∨ (cvA c = false ∧ ∃ ls wd, dbV c = ((wd, ls, ()), 0) ∧ (2 ≤ ls.length ∧ ls.length ≤ 3) ∧ (∀ l ∈ ls, isCo c.2.1.length 2 l) ∧ wd.length = sz c ∧ (∀ m ∈ wd, 0 ≤ m ∧ m < c.1) ∧ (∀ l ∈ ls, mk c l wd = true) ∧ cm ls = false) := by
  rw [convicts hc, dbV, decide_eq_true hc, cond_true, dbO]
  cases hf : (cands c.2.1.length).find? fun ls => (dbF c ls).2 with
  | none =>
    refine .inl ⟨?_, rfl⟩
    rw [Bool.not_eq_true', List.any_eq_false]
    exact List.find?_eq_none.1 hf
  | some ls =>
    have hm := List.mem_of_find?_eq_some hf
    have hp : (dbF c ls).2 = true := List.find?_some (p := fun ls => (dbF c ls).2) hf
    obtain ⟨h1, h2⟩ := cands_co hm
    obtain ⟨wd, e1, w1, w2, w3, w4⟩ := doubt_word hc h1 h2 hp
    refine .inr ⟨?_, ls, wd, ?_, h1, h2, w1, w2, w3, w4⟩
    · rw [Bool.not_eq_false', List.any_eq_true]
      exact ⟨ls, hm, hp⟩
    · simp only [e1]
theorem vE_none {c : Cd} {w : List Int} : ∀ {ls : List (List Int)}, (∀ l ∈ ls, coE c l = 0 ∧ l.length ≤ 2 ∧ mk c l w = true) → vE c w ls = none
  | [], _ => rfl
  | l :: r, h => by
    obtain ⟨a, b, d⟩ := h l (by simp)
    rw [vE, decide_eq_true a, decide_eq_false (show ¬ 2 < l.length by omega), d, cond_true, cond_false, cond_true]
    exact vE_none fun x hx => h x (by simp [hx])
def orL (l : List Int) : Nat := l.foldl (fun a i => a ||| 2 ^ i.toNat) 0
theorem orL_bit (l : List Int) (j : Nat) : ∀ a : Nat, (l.foldl (fun a (i : Int) => a ||| 2 ^ i.toNat) a).testBit j = (a.testBit j || l.any fun i => decide (i.toNat = j)) := by
  induction l with
  | nil => intro a; simp
  | cons x r ih =>
    intro a
    rw [List.foldl_cons, ih, Nat.testBit_or, Nat.testBit_two_pow, List.any_cons, Bool.or_assoc]
theorem orL_lt {N : Nat} : ∀ (l : List Int) (a : Nat), a < 2 ^ N → (∀ i ∈ l, 0 ≤ i ∧ i < (N : Int)) → l.foldl (fun a (i : Int) => a ||| 2 ^ i.toNat) a < 2 ^ N
  | [], a, h, _ => h
  | x :: r, a, h, hl => by
    rw [List.foldl_cons]
    refine orL_lt r _ (Nat.or_lt_two_pow h ?_) fun i hi => hl i (by simp [hi])
    have := hl x (by simp)
    exact Nat.pow_lt_pow_right (by decide) (by omega)
theorem bs_orL {N k : Nat} {l : List Int} (h : isCo N k l) : bs N (orL l) = l := by
  refine rise_ext (bs_rise _ _) h.2.2.1 fun e => ?_
  rw [bs_mem, orL, orL_bit, Nat.zero_testBit, Bool.false_or, List.any_eq_true]
  constructor
  · rintro ⟨h1, h2, i, hi, he⟩
    have := h.2.2.2 i hi
    have he := of_decide_eq_true he
    rw [show e = i by omega]; exact hi
  · intro he
    have := h.2.2.2 e he
    exact ⟨by omega, by omega, e, he, decide_eq_true rfl⟩
def B7 (s : Sh) : Option Bool := if okSh s = true then some true else none
theorem KB7 : FnOk Tryd.prog 7 (F7 B7) := ok7 (some true) B36 B38 B40 B41c42 B45 K15t KB36 KB38 KB40 KB41c42 KB45 B7 fun s r h => ⟨41, by
  simp only [B7] at h
  split at h
  · rename_i hs
    obtain ⟨hc, hsm, hn, hsz, hM, hP⟩ := mdC_ok hs
    rw [← h, m7, B40, if_pos hs, Option.bind_some]
    generalize hC : mdC s = c at *
    obtain ⟨hm, hn10, hz, hlen, hbd⟩ := cdE_ok hc
    have e41 : B41c42 c [c] true true = some ([c], cvA c, true) := if_pos ⟨⟨hc, rfl⟩, hsm, ⟨rfl, rfl⟩, by omega, by omega⟩
    have e36 : B36 c = some (dbV c) := if_pos hsm
    rw [e41, Option.bind_some]
    dsimp only
    rw [show ([c] : List Cd).getD 0 (0, ([], ())) = c from rfl, e36, Option.bind_some]
    rcases dbV_word hc with ⟨h1, h2⟩ | ⟨h1, ls, wd, h2, hl, hco, w1, w2, w3, w4⟩
    · rw [h1, h2]; rfl
    · rw [h1, h2]
      dsimp only
      have h2N : 2 ^ c.2.1.length ≤ 2 ^ 5 := Nat.pow_le_pow_right (by decide) hn.2
      have h2N1 : 2 ^ 1 ≤ 2 ^ c.2.1.length := Nat.pow_le_pow_right (by decide) hn.1
      have hv : vfV c (wd, ls, ()) = 0 := by
        rw [vfV]
        simp only
        rw [decide_eq_true (cwE_of hc w1 w2), cond_true, decide_eq_false (show ¬ ls.length = 0 by omega), cond_false, decide_eq_false (show ¬ 10 < ls.length by omega), cond_false, vfO]
        rw [vE_none fun l hl => ⟨coE_of (hco l hl), (hco l hl).2.1, w3 l hl⟩]
        simp only
        rw [w4]; rfl
      have e38 : B38 c (wd, ls, ()) = some 0 := by
        rw [B38, if_pos, hv]
        simp only [okD, Bool.and_eq_true, decide_eq_true_eq, List.all_eq_true]
        exact ⟨⟨hsm, by omega⟩, fun l hl => by have := (hco l hl).2.1; omega⟩
      rw [cond_false, Bool.not_true, cond_false, show ((0 : Int) != 0) = false from rfl, cond_false, chk_dec (by omega), show (c.2.1.getD 0 []).length = sz c from rfl, w1, show ((sz c : Int) != (sz c : Int)) = false by simp, cond_false,
        decide_eq_false (by omega), cond_false, decide_eq_false (by omega), cond_false, e38, Option.bind_some, show ((0 : Int) != 0) = false from rfl, cond_false, chk_dec (by omega), one_i64 (show c.2.1.length < 62 by omega), w64_small (by omega)]
      -- the rounds over the coalitions
      refine rangeP ls [] (fun n (cmn : Int) t => l7a (some true) B36 B38 B40 B41c42 B45 41 ([c], false, true) ((wd, ls, ()), 0) n cmn t) (fun t rest cmn => (∀ l ∈ rest, isCo c.2.1.length 2 l ∧ mk c l wd = true) ∧ ∃ q : Nat, cmn = (q : Int) ∧ q < 2 ^ c.2.1.length ∧ ∀ i : Nat, q.testBit i = true → ∀ l ∈ ls.take t, (i : Int) ∈ l) (fun r => r = some true) (fun n cmn t x rest ht hx hd hI ih => ?_) (fun n cmn hI => ?_) 41 (((2 ^ c.2.1.length : Nat) : Int) - 1) (by omega)
        ⟨fun l hl => ⟨hco l hl, w3 l hl⟩, 2 ^ c.2.1.length - 1, by omega, by omega, fun i _ l hl => by cases hl⟩
      · obtain ⟨i1, q, rfl, hq, hqb⟩ := hI
        obtain ⟨hxc, hxm⟩ := i1 x (by simp)
        have hx2 := hxc.2.1
        have hx0 := isCo_ne hxc
        rw [l7a]
        dsimp only
        rw [ixA ht, cond_true, ixB ht, chk_true]
        have hgoal : ∀ cmn', (∃ q : Nat, cmn' = (q : Int) ∧ q < 2 ^ c.2.1.length ∧ ∀ i : Nat, q.testBit i = true → ∀ l ∈ ls.take (t + 1), (i : Int) ∈ l) → l7a (some true) B36 B38 B40 B41c42 B45 41 ([c], false, true) ((wd, ls, ()), 0) n cmn' ((t + 1 : Nat) : Int) = some true := fun cmn' hq' => ih cmn' ⟨fun l hl => i1 l (by simp [hl]), hq'⟩
        refine rangeP x 0 (fun n' (st : Int) j => l7b (some true) B36 B38 B40 B41c42 B45 41 ([c], false, true) ((wd, ls, ()), 0) (q : Int) (t : Int) (fun y0 y1 => l7a (some true) B36 B38 B40 B41c42 B45 41 ([c], false, true) ((wd, ls, ()), 0) n y0 y1) n' st j) (fun j rest' st => st = ((orL (x.take j) : Nat) : Int)) (fun r => r = some true) (fun n' st j y rest' hj hy hd' hI' ih' => ?_) (fun n' st hI' => ?_) 41 0 (by omega) rfl
        · subst hI'
          have hyr := hxc.2.2.2 y (hy ▸ getD_mem hj)
          have hlt : orL (x.take j) < 2 ^ c.2.1.length := orL_lt _ _ (Nat.two_pow_pos _) fun i hi => hxc.2.2.2 i (List.mem_of_mem_take hi)
          have hyp : 2 ^ y.toNat < 2 ^ c.2.1.length := Nat.pow_lt_pow_right (by decide) (by omega)
          obtain ⟨yn, rfl⟩ : ∃ u : Nat, y = u := ⟨y.toNat, by omega⟩
          rw [Int.toNat_natCast] at hyp
          rw [l7b]
          dsimp only
          rw [show ([c] : List Cd).getD 0 (0, ([], ())) = c from rfl, Int.toNat_natCast, hx, ixA hj, cond_true, ixB hj, chk_true, Int.toNat_natCast, hy, decide_eq_false (by omega), cond_false, decide_eq_false (by omega), cond_false, chk_dec (by omega), one_i64 (by omega), bOr_i64 (by omega) (by omega), ixW hj (by omega)]
          refine ih' _ ?_
          rw [take_succ' hj hy, orL, orL, List.foldl_append]; rfl
        · subst hI'
          rw [List.take_length]
          have hlt : orL x < 2 ^ c.2.1.length := orL_lt _ _ (Nat.two_pow_pos _) fun i hi => hxc.2.2.2 i hi
          have e45 : B45 c ((orL x : Nat) : Int) wd = some true := by
            rw [B45, if_pos ⟨hc, by omega, w1⟩, Int.toNat_natCast, bs_orL hxc, hxm]
          rw [l7b]
          dsimp only
          rw [show ([c] : List Cd).getD 0 (0, ([], ())) = c from rfl, Int.toNat_natCast, hx, ixE, cond_false, decide_eq_false (by omega), cond_false, decide_eq_false (by omega), cond_false, e45, Option.bind_some, Bool.not_true, cond_false, bAnd_i64 (by omega) (by omega), ixW ht (by omega)]
          refine hgoal _ ⟨_, rfl, Nat.and_lt_two_pow _ hlt, fun i hi l hl => ?_⟩
          rw [Nat.testBit_and, Bool.and_eq_true] at hi
          rw [take_succ' ht hx] at hl
          rcases List.mem_append.1 hl with hl | hl
          · exact hqb i hi.1 l hl
          · rw [List.mem_singleton.1 hl]
            have := hi.2
            rw [← bs_orL hxc, bs_mem, Int.toNat_natCast]
            refine ⟨by omega, ?_, this⟩
            have h3 : i < c.2.1.length := Classical.byContradiction fun hno => by
              rw [Nat.testBit_lt_two_pow (Nat.lt_of_lt_of_le hlt (Nat.pow_le_pow_right (by decide) (Nat.le_of_not_lt hno)))] at this
              cases this
            omega
      · obtain ⟨i1, q, rfl, hq, hqb⟩ := hI
        rw [List.take_length] at hqb
        have hq0 : q = 0 := Nat.eq_of_testBit_eq fun i => by
          rw [Nat.zero_testBit]
          cases e : q.testBit i with
          | false => rfl
          | true =>
            have hall := hqb i e
            have : cm ls = true := List.any_eq_true.2 ⟨(i : Int), hall _ (getD_mem (by omega)), List.all_eq_true.2 fun l hl => decide_eq_true (hall l hl)⟩
            rw [w4] at this; cases this
        subst hq0
        rw [l7a]
        dsimp only
        rw [ixE, cond_false]; rfl
  · cases h⟩
end Go.Proofs.YtbjfbbfglkmadaaDoor
