/-
  Lean coalitions and guilty customers are those that all coalitions show.
-/
import Derived.Test.YtbjfbbfglkmadaaDoorX2
import Derived.Test.YtbjfbbfglkmadaaDoorM3
import Derived.Test.YtbjfbbfglkmadaaDoorQ8
namespace Go.Proofs.YtbjfbbfglkmadaaDoor
open Go.RowKit
set_option linter.unusedVariables false

theorem andNot {a b : Nat} (ha : a < 4611686018427387904) (hb : b < 4611686018427387904) : ∃ m : Nat, m ≤ a ∧ bAndNot .i64 (a : Int) (b : Int) = (m : Int) ∧ ∀ j, m.testBit j = (a.testBit j && !b.testBit j) := by
  refine ⟨(BitVec.ofNat 64 a &&& ~~~BitVec.ofNat 64 b).toNat, ?_, ?_, fun j => ?_⟩
  · rw [BitVec.toNat_and, BitVec.toNat_ofNat, Nat.mod_eq_of_lt (show a < 2 ^ 64 by rw [p64]; omega)]
    exact Nat.and_le_left
  · show IntKind.wrap .i64 ((((BitVec.ofInt 64 (a : Int)) &&& ~~~(BitVec.ofInt 64 (b : Int))).toNat : Nat) : Int) = _
    rw [BitVec.ofInt_natCast, BitVec.ofInt_natCast]
    refine wrap_i64 ?_
    rw [BitVec.toNat_and, BitVec.toNat_ofNat, Nat.mod_eq_of_lt (show a < 2 ^ 64 by rw [p64]; omega)]
    exact Nat.lt_of_le_of_lt Nat.and_le_left (by omega)
  · rw [BitVec.testBit_toNat, BitVec.getLsbD_and, BitVec.getLsbD_not, BitVec.getLsbD_ofNat, BitVec.getLsbD_ofNat]
    by_cases hj : j < 64
    · simp [hj]
    · have h1 : a.testBit j = false := Nat.testBit_lt_two_pow (Nat.lt_of_lt_of_le (show a < 2 ^ 62 by rw [p62]; exact ha) (Nat.pow_le_pow_right (by decide) (by omega)))
      simp [hj, h1]
theorem er_memr {x : List Int} {k : Nat} (hx : x.Pairwise (· < ·)) (hk : k < x.length) {e : Int} : e ∈ er x k ↔ e ∈ x ∧ e ≠ x.getD k 0 := by
  have hd := drop_cons' (d := 0) hk
  have h1 : x = x.take k ++ x.getD k 0 :: x.drop (k + 1) := by rw [← hd, List.take_append_drop]
  have hp := hx
  rw [h1, List.pairwise_append] at hp
  obtain ⟨_, h3, h4⟩ := hp
  obtain ⟨h5, _⟩ := List.pairwise_cons.1 h3
  rw [er, List.mem_append]
  constructor
  · rintro (h | h)
    · exact ⟨List.mem_of_mem_take h, by have := h4 e h (x.getD k 0) (by simp); omega⟩
    · exact ⟨List.mem_of_mem_drop h, by have := h5 e h; omega⟩
  · rintro ⟨h, hn⟩
    rw [h1, List.mem_append, List.mem_cons] at h
    rcases h with h | h | h
    · exact .inl h
    · exact absurd h hn
    · exact .inr h
theorem bs_er {N q m k : Nat} {i : Int} (hk : k < (bs N q).length) (hi : (bs N q).getD k 0 = i) (hm : ∀ j, m.testBit j = (q.testBit j && !(2 ^ i.toNat).testBit j)) : bs N m = er (bs N q) k := by
  have hi0 := (bs_mem.1 (hi ▸ getD_mem hk : i ∈ bs N q)).1
  refine rise_ext (bs_rise _ _) (er_rise (bs_rise _ _) k) fun e => ?_
  rw [er_memr (bs_rise _ _) hk, bs_mem, bs_mem, hm, hi, Bool.and_eq_true, Bool.not_eq_true', Nat.testBit_two_pow, decide_eq_false_iff_not]
  constructor
  · rintro ⟨h1, h2, h3, h4⟩; exact ⟨⟨h1, h2, h3⟩, by omega⟩
  · rintro ⟨⟨h1, h2, h3⟩, h4⟩; exact ⟨h1, h2, h3, by omega⟩
def LB (c : Cd) (w : List Int) (P : List Int → Prop) (b : Option (List Int)) : Prop :=
  (b = none ∧ ∀ x, P x → mk c x w = false) ∨ (∃ y, b = some y ∧ P y ∧ mk c y w = true ∧ ∀ x, P x → mk c x w = true → y.length < x.length ∨ (y.length = x.length ∧ (x = y ∨ bf y x = true)))
theorem LB.skip {c : Cd} {w : List Int} {P P' : List Int → Prop} {b : Option (List Int)} {x : List Int} (h : LB c w P b) (hp : ∀ z, P' z ↔ P z ∨ z = x)
    (hx : mk c x w = false ∨ ∃ y, b = some y ∧ (y.length < x.length ∨ (y.length = x.length ∧ (x = y ∨ bf y x = true)))) : LB c w P' b := by
  rcases h with ⟨h1, h3⟩ | ⟨y, h1, h2, h3, h4⟩
  · refine .inl ⟨h1, fun z hz => ?_⟩
    rcases (hp z).1 hz with hz | rfl
    · exact h3 z hz
    · rcases hx with hx | ⟨y, hy, _⟩
      · exact hx
      · rw [h1] at hy; cases hy
  · refine .inr ⟨y, h1, (hp y).2 (.inl h2), h3, fun z hz hs => ?_⟩
    rcases (hp z).1 hz with hz | rfl
    · exact h4 z hz hs
    · rcases hx with hx | ⟨y', hy, hx⟩
      · rw [hx] at hs; cases hs
      · rw [h1] at hy; obtain rfl := Option.some.inj hy; exact hx
theorem LB.take {c : Cd} {w : List Int} {P P' : List Int → Prop} {b : Option (List Int)} {x : List Int} (h : LB c w P b) (hp : ∀ z, P' z ↔ P z ∨ z = x)
    (hi : mk c x w = true) (hx : ∀ y, b = some y → x.length < y.length ∨ (x.length = y.length ∧ bf x y = true)) : LB c w P' (some x) := by
  refine .inr ⟨x, rfl, (hp x).2 (.inr rfl), hi, fun z hz hs => ?_⟩
  rcases (hp z).1 hz with hz | rfl
  · rcases h with ⟨h1, h3⟩ | ⟨y, h1, h2, h3, h4⟩
    · rw [h3 z hz] at hs; cases hs
    · rcases hx y h1 with q | ⟨q1, q2⟩ <;> rcases h4 z hz hs with r | ⟨r1, r2⟩
      · exact .inl (by omega)
      · exact .inl (by omega)
      · exact .inl (by omega)
      · refine .inr ⟨by omega, .inr ?_⟩
        rcases r2 with r2 | r2
        · rw [r2]; exact q2
        · exact bf_trans q2 r2
  · exact .inr ⟨rfl, .inl rfl⟩
def wdB (s : Sh) (b : List Int) (n : Nat) : List Int := (List.range' 0 n).map fun k => b.getD k 0 % mM s
theorem wdB_len (s : Sh) (b : List Int) (n : Nat) : (wdB s b n).length = n := by simp [wdB]
theorem wdB_succ (s : Sh) (b : List Int) (n : Nat) : wdB s b (n + 1) = wdB s b n ++ [b.getD n 0 % mM s] := by
  rw [wdB, wdB, rangeE, List.map_append]; simp
theorem set_pad {a : List Int} {m : Nat} {v : Int} : (a ++ List.replicate (m + 1) 0).set a.length v = (a ++ [v]) ++ List.replicate m 0 := by
  induction a with
  | nil => rfl
  | cons x r ih => rw [List.cons_append, List.length_cons, List.set_cons_succ, ih]; rfl
theorem wdB_ok {s : Sh} {b : List Int} (hs : okSh s = true) : (wdB s b (pL s)).length = sz (mdC s) ∧ wE (mdC s) (wdB s b (pL s)) = 0 := by
  obtain ⟨hc, _, _, hsz, hM, _⟩ := mdC_ok hs
  have hl : (wdB s b (pL s)).length = sz (mdC s) := by rw [wdB_len, hsz]
  refine ⟨hl, ?_⟩
  rw [wE, decide_eq_true hl, cond_true]
  have : (wdB s b (pL s)).any (outM (mdC s).1) = false := List.any_eq_false.2 fun m hm => by
    obtain ⟨k, _, rfl⟩ := List.mem_map.1 hm
    have h1 : 0 ≤ b.getD k 0 % mM s := Int.emod_nonneg _ (by have : (mdC s).1 = mM s := rfl; omega)
    have h2 : b.getD k 0 % mM s < mM s := Int.emod_lt_of_pos _ (by have : (mdC s).1 = mM s := rfl; omega)
    have h3 : (mdC s).1 = mM s := rfl
    simp only [outM, Bool.not_eq_true, Bool.not_eq_false', decide_eq_true_eq]
    rw [w64_small (by omega)]; omega
  rw [this]; rfl
def Inv8 (c : Cd) (w : List Int) (zn t : Nat) (least : Option (List Int)) (want : List (List Int)) : Prop :=
  LB c w (fun x => isCo c.2.1.length 10 x ∧ num x < t) least ∧ want.Pairwise (fun a b => bf a b = true) ∧ want.length < t ∧ ∀ x, x ∈ want ↔ (isCo c.2.1.length zn x ∧ ln c x w = true) ∧ num x < t
abbrev W8b (F : Nat) := l8b (some true) B20 B24 B26 B28 B32 B33 B40 B43 B44 B45 B46 F
abbrev W8c (F : Nat) := l8c (some true) B20 B24 B26 B28 B32 B33 B40 B43 B44 B45 B46 F
abbrev W8d (F : Nat) := l8d (some true) B20 B24 B26 B28 B32 B33 B40 B43 B44 B45 B46 F
abbrev W8e (F : Nat) := l8e (some true) B20 B24 B26 B28 B32 B33 B40 B43 B44 B45 B46 F
theorem in8 {F : Nat} (hF : 41 ≤ F) {c : Cd} {w x : List Int} {z : Int} {q : Nat} {r2 : List (List Int) × Int} {r3 : List Int × Int} {want : List (List Int)} {rec : Option (List Int) → Int → List (List Int) → Option Bool}
    (hc : cdE c = 0) (hw : w.length = sz c) (hx : bs c.2.1.length q = x) (hq : q < 1024) (hN : c.2.1.length ≤ 10) (least : Option (List Int)) (lean : Bool) :
    W8c F z c w r2 r3 (q : Int) want x rec F least lean 0 = cond (lean && (List.range' 0 x.length).all fun k => !mk c (er x k) w)
      (chk (small (want.length + 1) 24) (W8d F z c w r2 r3 (q : Int) least rec F (w64 (((want ++ ([x] : List (List Int))).length : Int) - 1)) (want ++ ([x] : List (List Int))))) (rec least ((q + 1 : Nat) : Int) want) := by
  have hxl : x.length ≤ 10 := by rw [← hx]; exact Nat.le_trans bs_le hN
  refine (rangeIx x 0 (fun n (s : Bool) k => W8c F z c w r2 r3 (q : Int) want x rec n least s k) (fun k ys _ => ys.length = x.length - k) (fun k ys s => cond (s && (List.range' k ys.length).all fun k => !mk c (er x k) w)
      (chk (small (want.length + 1) 24) (W8d F z c w r2 r3 (q : Int) least rec F (w64 (((want ++ ([x] : List (List Int))).length : Int) - 1)) (want ++ ([x] : List (List Int))))) (rec least ((q + 1 : Nat) : Int) want))
    (fun n s k y ys hk hy hI ih => ?_) (fun n s _ => ?_) F lean (by omega) rfl)
  · have hys : ys.length = x.length - (k + 1) := by simp only [List.length_cons] at hI; omega
    have hyx : y ∈ x := hy ▸ getD_mem hk
    have hyb : 0 ≤ y ∧ y < c.2.1.length := by rw [← hx] at hyx; exact ⟨(bs_mem.1 hyx).1, (bs_mem.1 hyx).2.1⟩
    obtain ⟨j, rfl⟩ : ∃ j : Nat, y = j := ⟨y.toNat, by omega⟩
    have ho := one_i64 (show j < 62 by omega)
    have hj : 2 ^ j < 4611686018427387904 := by rw [← p62]; exact Nat.pow_lt_pow_right (by decide) (by omega)
    obtain ⟨m, m1, m2, m3⟩ := andNot (a := q) (b := 2 ^ j) (by omega) hj
    have e45 : B45 c (m : Int) w = some (mk c (er x k) w) := by
      rw [B45, if_pos ⟨hc, by omega, hw⟩, Int.toNat_natCast, bs_er (q := q) (k := k) (i := (j : Int)) (by rw [hx]; exact hk) (by rw [hx]; exact hy) (by rw [Int.toNat_natCast]; exact m3), hx]
    show l8c _ _ _ _ _ _ _ _ _ _ _ _ _ _ _ _ _ _ _ _ _ _ _ _ _ _ = _
    simp only [l8c, ixA hk, ixB hk, cond_true, chk_true, ixW hk (by omega), Int.toNat_natCast, hy, List.length_cons, List.range'_succ, List.all_cons]
    cases s with
    | false => simp only [cond_false, Bool.false_and]; exact (ih false hys).trans (by simp only [Bool.false_and, cond_false])
    | true =>
      rw [Int.toNat_natCast] at ho
      rw [cond_true, chk_dec (show 0 ≤ (j : Int) by omega), ho, m2, e45, Option.bind_some, Bool.true_and]
      exact ih _ hys
  · show l8c _ _ _ _ _ _ _ _ _ _ _ _ _ _ _ _ _ _ _ _ _ _ _ _ _ _ = _
    simp only [l8c, ixE, cond_false, List.length_nil, List.range'_zero, List.all_nil, Bool.and_true, ixW (show q < 1024 by omega) (by omega)]
theorem ld8 {F : Nat} (hF : 41 ≤ F) {c : Cd} {w x : List Int} {z : Int} {q : Nat} {r2 : List (List Int) × Int} {r3 : List Int × Int} {least : Option (List Int)} {rec : Option (List Int) → Int → List (List Int) → Option Bool} {want : List (List Int)}
    (hq : q < 1024) (ho : want.Pairwise fun a b => bf a b = true) (hlen : ∀ y ∈ want, y.length ≤ 40) (hx : x.length ≤ 40) (hnot : x ∉ want) (hol : want.length < 40) :
    ∃ o' : List (List Int), o'.Pairwise (fun a b => bf a b = true) ∧ o'.length = want.length + 1 ∧ (∀ y, y ∈ o' ↔ y = x ∨ y ∈ want) ∧ W8d F z c w r2 r3 (q : Int) least rec F (want.length : Int) (want ++ [x]) = rec least ((q + 1 : Nat) : Int) o' := by
  refine sinkP (L := fun n k o => W8d F z c w r2 r3 (q : Int) least rec n k o) (R := fun o => rec least ((q + 1 : Nat) : Int) o) (fun n k o hk hol => ?_) ho hlen hx hnot (by omega) want [] F (by omega) (List.append_nil _) fun y hy => by cases hy
  show l8d _ _ _ _ _ _ _ _ _ _ _ _ _ _ _ _ _ _ _ _ _ _ _ _ = _
  cases k with
  | zero => simp only [l8d, show decide (((0 : Nat) : Int) > 0) = false from rfl, cond_false, ixW (show q < 1024 by omega) (by omega)]; rfl
  | succ k =>
    simp only [l8d, show decide (((k + 1 : Nat) : Int) > 0) = true from decide_eq_true (by omega), cond_true, decide_eq_true (Nat.succ_pos k), ixW (show q < 1024 by omega) (by omega)]
    rw [w64_small (x := ((k + 1 : Nat) : Int) - 1) (by omega), show (((k + 1 : Nat) : Int) - 1) = (k : Int) by omega]
    simp only [Int.toNat_natCast, List.length_set, Nat.add_sub_cancel]
    rw [chk_dec (by omega), chk_dec (by omega)]
    congr 1
    funext r
    rw [chk_dec (by omega), chk_dec (by omega), chk_dec (by omega), chk_dec (by omega)]
theorem sets8 {F : Nat} (hF : 41 ≤ F) {c : Cd} {w : List Int} {z : Int} {zn : Nat} (hc : cdE c = 0) (hsm : smB c = true) (hn : 1 ≤ c.2.1.length ∧ c.2.1.length ≤ 5) (hw : w.length = sz c) (hwe : wE c w = 0) (hzn : 1 ≤ zn ∧ zn ≤ 4) (eN : w64 (1 + Int.tmod (w64 z) 4) = (zn : Int)) :
    W8b F z c w (lnL c w (zn : Int), 0) (fwF c w c.2.1.length 1) F none 1 [] = some true := by
  have hok := cdE_ok hc
  have hw0 : 0 < w.length := by omega
  have h2N : 2 ^ c.2.1.length ≤ 2 ^ 5 := Nat.pow_le_pow_right (by decide) hn.2
  have h2N1 : 2 ^ 1 ≤ 2 ^ c.2.1.length := Nat.pow_le_pow_right (by decide) hn.1
  have hcw : cwE c w = 0 := by rw [cwE, decide_eq_true hc, cond_true]; exact hwe
  have hsw : smB c = true ∧ w.length ≤ 1000 := ⟨hsm, by omega⟩
  refine countP' 1 ((2 ^ c.2.1.length : Nat) : Int) (by omega) (fun n (b : Option (List Int) × List (List Int)) t => W8b F z c w (lnL c w (zn : Int), 0) (fwF c w c.2.1.length 1) n b.1 t b.2) (fun t b => Inv8 c w zn t.toNat b.1 b.2) (fun r => r = some true) (fun n b t a1 a2 hI ih => ?_) (fun n b hI => ?_) F (none, []) (by omega) ⟨.inl ⟨rfl, fun x hx => ?_⟩, .nil, by simp, fun x => ?_⟩
  · obtain ⟨q, rfl⟩ : ∃ j : Nat, t = j := ⟨t.toNat, by omega⟩
    have hq : q < 2 ^ c.2.1.length := by omega
    obtain ⟨least, want⟩ := b
    obtain ⟨i1, i2, i3, i4⟩ := hI
    simp only [Int.toNat_natCast] at i1 i2 i3 i4
    have h44 : B44 (q : Int) = some (bs c.2.1.length q) := by rw [B44, if_pos (by omega), Int.toNat_natCast, bs_10 hq (by omega)]
    have h45 : B45 c (q : Int) w = some (mk c (bs c.2.1.length q) w) := by rw [B45, if_pos ⟨hc, by omega, hw⟩, Int.toNat_natCast]
    have hlen := bs_le (N := c.2.1.length) (s := q)
    have hnum := num_bs hq
    have hxco : isCo c.2.1.length 10 (bs c.2.1.length q) := (isCo_bs (by omega) hq).2 (by omega)
    have hnumx : ∀ x, isCo c.2.1.length 10 x → num x = q → x = bs c.2.1.length q := fun x hx e => by rw [← e, bs_num hx.2.2.1 hx.2.2.2]
    have hP : ∀ x, isCo c.2.1.length 10 x ∧ num x < q + 1 ↔ (isCo c.2.1.length 10 x ∧ num x < q) ∨ x = bs c.2.1.length q := fun x => by
      constructor
      · rintro ⟨g1, g2⟩
        by_cases e : num x = q
        · exact .inr (hnumx x g1 e)
        · exact .inl ⟨g1, by omega⟩
      · rintro (⟨g1, g2⟩ | rfl)
        · exact ⟨g1, by omega⟩
        · exact ⟨hxco, by rw [hnum]; omega⟩
    have hx0 := isCo_ne hxco
    have h20 : B20 c (bs c.2.1.length q) w = some (cond (mk c (bs c.2.1.length q) w) 0 13) := by
      rw [B20, if_pos ⟨hsm, by omega, by omega⟩, maE, decide_eq_true hc, cond_true, decide_eq_true (coE_of hxco), cond_true, decide_eq_true hwe, cond_true]
    generalize hx : bs c.2.1.length q = x at *
    have go : ∀ b' : Option (List Int) × List (List Int), Inv8 c w zn (q + 1) b'.1 b'.2 → W8b F z c w (lnL c w (zn : Int), 0) (fwF c w c.2.1.length 1) n b'.1 ((q + 1 : Nat) : Int) b'.2 = some true := fun b' hb' => by
      have := ih b' (by rw [show ((q : Int) + 1).toNat = q + 1 by omega]; exact hb')
      rw [show ((q : Int) + 1) = ((q + 1 : Nat) : Int) by omega] at this
      exact this
    have wantSame : (x.length ≤ zn → ln c x w = false) → ∀ y, y ∈ want ↔ (isCo c.2.1.length zn y ∧ ln c y w = true) ∧ num y < q + 1 := fun hno y => by
      rw [i4]
      refine ⟨fun h => ⟨h.1, by omega⟩, fun h => ⟨h.1, ?_⟩⟩
      by_cases e : num y = q
      · have hy := hnumx y (isCo_up h.1.1 (by have := h.1.1.2.1; omega)) e
        rw [hy] at h
        rw [hno h.1.1.2.1] at h; exact absurd h.1.2 (by decide)
      · omega
    show l8b _ _ _ _ _ _ _ _ _ _ _ _ _ _ _ _ _ _ _ _ _ _ = _
    simp only [l8b, chk_dec (show 0 ≤ (c.2.1.length : Int) by omega), one_i64 (show c.2.1.length < 62 by omega), decide_eq_true a2, cond_true, h44, Option.bind_some, h45, h20, eN]
    have v8 := fun (ls : Option (List Int)) (b : Bool) => in8 hF (z := z) (r2 := (lnL c w (zn : Int), 0)) (r3 := fwF c w c.2.1.length 1) (want := want) (rec := fun y0 y1 y2 => W8b F z c w (lnL c w (zn : Int), 0) (fwF c w c.2.1.length 1) n y0 y1 y2) hc hw hx (show q < 1024 by omega) (by omega) ls b
    cases em : mk c x w with
    | false =>
      simp only [cond_false]
      rw [show (((13 : Int) == 0) != false) = false from rfl, cond_false]
      refine (v8 least false).trans ?_
      rw [Bool.false_and, cond_false]
      exact go (least, want) ⟨i1.skip hP (.inl em), i2, (show want.length < q + 1 by omega), wantSame fun _ => by rw [ln, em, Bool.and_false]⟩
    | true =>
      simp only [cond_true]
      rw [show (((0 : Int) == 0) != true) = false from rfl, cond_false]
      have inner : ∀ least', LB c w (fun x => isCo c.2.1.length 10 x ∧ num x < q + 1) least' → W8c F z c w (lnL c w (zn : Int), 0) (fwF c w c.2.1.length 1) (q : Int) want x (fun y0 y1 y2 => W8b F z c w (lnL c w (zn : Int), 0) (fwF c w c.2.1.length 1) n y0 y1 y2) F least' (decide ((x.length : Int) ≤ (zn : Int))) 0 = some true := fun least' hb => by
        refine (v8 least' _).trans ?_
        have hln : ((List.range' 0 x.length).all fun k => !mk c (er x k) w) = ln c x w := by rw [ln, em, Bool.and_true]
        rw [hln]
        cases el : decide ((x.length : Int) ≤ (zn : Int)) && ln c x w with
        | false =>
          rw [cond_false]
          refine go (least', want) ⟨hb, i2, (show want.length < q + 1 by omega), wantSame fun hle => ?_⟩
          rw [decide_eq_true (by omega), Bool.true_and] at el; exact el
        | true =>
          rw [Bool.and_eq_true, decide_eq_true_eq] at el
          rw [cond_true, chk_of (small_of (by omega) (by decide)), List.length_append, List.length_singleton, w64_small (by omega), show (((want.length + 1 : Nat) : Int) - 1) = (want.length : Int) by omega]
          obtain ⟨o', o1, o2, o3, o4⟩ := ld8 hF (c := c) (w := w) (x := x) (z := z) (q := q) (r2 := (lnL c w (zn : Int), 0)) (r3 := fwF c w c.2.1.length 1) (least := least') (rec := fun y0 y1 y2 => W8b F z c w (lnL c w (zn : Int), 0) (fwF c w c.2.1.length 1) n y0 y1 y2) (want := want) (by omega) i2 (fun y hy => by have := isCo_len ((i4 y).1 hy).1.1; omega) (by omega) (fun hm => by have := ((i4 x).1 hm).2; omega) (by omega)
          rw [o4]
          refine go (least', o') ⟨hb, o1, by simp only; omega, fun y => ?_⟩
          simp only
          rw [o3]
          constructor
          · rintro (rfl | h)
            · exact ⟨⟨isCo_up hxco (by omega), el.2⟩, by omega⟩
            · have := (i4 y).1 h; exact ⟨this.1, by omega⟩
          · rintro ⟨h, hn⟩
            by_cases e : num y = q
            · exact .inl (hnumx y (isCo_up h.1 (by have := h.1.2.1; omega)) e)
            · exact .inr ((i4 y).2 ⟨h, by omega⟩)
      cases eb : least with
      | none =>
        subst eb
        rw [show (none : Option (List Int)).isNone = true from rfl, cond_true, chk_dec hx0]
        exact inner (some x) (i1.take hP em fun y hy => by cases hy)
      | some y =>
        subst eb
        simp only [Option.isNone_some, cond_false, Option.getD_some]
        have hy10 : y.length ≤ 40 := by
          rcases i1 with ⟨h1, _⟩ | ⟨y', h1, ⟨h2, _⟩, _⟩
          · cases h1
          · obtain rfl := Option.some.inj h1; have := isCo_len h2; omega
        by_cases l1 : x.length < y.length
        · rw [decide_eq_true (show (x.length : Int) < (y.length : Int) by omega), cond_true, chk_dec hx0]
          exact inner (some x) (i1.take hP em fun y' hy' => by obtain rfl := Option.some.inj hy'; exact .inl l1)
        · rw [decide_eq_false (show ¬ (x.length : Int) < (y.length : Int) by omega), cond_false, beqDec]
          by_cases l2 : x.length = y.length
          · rw [decide_eq_true (show (x.length : Int) = (y.length : Int) by omega), cond_true, B46, if_pos (by omega), Option.bind_some]
            cases ebf : bf x y with
            | true =>
              rw [cond_true, chk_dec hx0]
              exact inner (some x) (i1.take hP em fun y' hy' => by obtain rfl := Option.some.inj hy'; exact .inr ⟨l2, ebf⟩)
            | false =>
              rw [cond_false]
              refine inner (some y) (i1.skip hP (.inr ⟨y, rfl, .inr ⟨l2.symm, ?_⟩⟩))
              rcases bf_tri x y with h | h | h
              · exact .inl h
              · rw [ebf] at h; cases h
              · exact .inr h
          · rw [decide_eq_false (show ¬ (x.length : Int) = (y.length : Int) by omega), cond_false]
            exact inner (some y) (i1.skip hP (.inr ⟨y, rfl, .inl (by omega)⟩))
  · obtain ⟨least, want⟩ := b
    obtain ⟨i1, i2, i3, i4⟩ := hI
    simp only [Int.toNat_natCast] at i1 i2 i3 i4
    have numlt : ∀ k x, isCo c.2.1.length k x → num x < 2 ^ c.2.1.length := fun k x h => num_lt (Nat.two_pow_pos _) fun e he => h.2.2.2 e he
    have hwant : want = lnL c w (zn : Int) := by
      refine eq_of_sorted i2 ((co_sorted _ _).filter _) fun x => ?_
      rw [i4, lnL_iff, Int.toNat_natCast]
      exact ⟨fun h => h.1, fun h => ⟨h, numlt _ x h.1⟩⟩
    have hLl := lnL_len (c := c) (w := w) (z := (zn : Int)) (by omega)
    have h33 : B33 (lnL c w (zn : Int)) (lnL c w (zn : Int)) = some true := (if_pos ⟨by omega, fun x hx => by have := isCo_len (lnL_mem hx); omega⟩).trans (by rw [decide_eq_true rfl])
    have h28 : ∀ k : Int, 1 ≤ k ∧ k ≤ 10 → B28 c w k = some (cond (decide ((lnL c w k).length = 0)) ([], 14) (gl c w k, 0)) := fun k hk => by
      rw [B28, if_pos hsw, guV, decide_eq_true hcw, cond_true, decide_eq_true hk, cond_true]
    have h43 : B43 c w (zn : Int) = some (((guA c w (zn : Int)).1 : Int), (guA c w (zn : Int)).2) := if_pos ⟨hc, hw⟩
    have h44 : B44 ((guA c w (zn : Int)).1 : Int) = some (gl c w (zn : Int)) := by
      have hlt : (guA c w (zn : Int)).1 < 2 ^ c.2.1.length := guS_lt _
      rw [B44, if_pos ⟨by omega, by omega⟩, Int.toNat_natCast, bs_10 hlt (by omega), guA_mem (by omega) hw0]
    obtain ⟨b0, hb0, hv⟩ := fwF_best (c := c) (w := w) (by omega) c.2.1.length 1 (by omega) fun x hx _ => isCo_ne (co_mem.1 hx)
    have eN1 : w64 ((zn : Int) + 1) = ((zn + 1 : Nat) : Int) := by rw [w64_small (by omega)]; omega
    subst hwant
    show l8b _ _ _ _ _ _ _ _ _ _ _ _ _ _ _ _ _ _ _ _ _ _ = _
    rw [l8b]
    rw [chk_dec (show 0 ≤ (c.2.1.length : Int) by omega), one_i64 (show c.2.1.length < 62 by omega), decide_eq_false (Int.lt_irrefl _), cond_false]
    dsimp only
    rw [show ((0 : Int) != 0) = false from rfl, cond_false, h33, Option.bind_some, Bool.not_true, cond_false, hv]
    rcases i1 with ⟨h1, h2⟩ | ⟨y, h1, ⟨h2, _⟩, h3, h4⟩
    · subst h1
      have hb : b0 = [] := by
        rcases hb0 with ⟨h, _⟩ | ⟨h, h', _⟩
        · exact h
        · rw [h2 b0 ⟨co_mem.1 h, numlt _ _ (co_mem.1 h)⟩] at h'; cases h'
      subst hb
      rw [show (none : Option (List Int)).isNone = true from rfl, cond_true]
      rfl
    · subst h1
      have hb : b0 = y := hb0.uniq (.inr ⟨co_mem.2 h2, h3, fun x hx hm => h4 x ⟨co_mem.1 hx, numlt _ _ (co_mem.1 hx)⟩ hm⟩)
      subst hb
      have hy0 := isCo_ne h2
      have hyl := isCo_len h2
      have h32 : ∀ a : List Int, a.length ≤ 10000 → B32 a a = some true := fun a h => (if_pos h).trans (by rw [decide_eq_true rfl])
      rw [show (some b0).isNone = false from rfl, cond_false, decide_eq_false (show ¬ b0.length = 0 by omega), cond_false, eN, eN1, h43, Option.bind_some, h28 (zn : Int) (by omega), Option.bind_some, h28 ((zn + 1 : Nat) : Int) (by omega), Option.bind_some]
      dsimp only [Option.getD_some]
      cases ef : (guA c w (zn : Int)).2 with
      | false =>
        have hno : ¬ ∃ x, isCo c.2.1.length (zn : Int).toNat x ∧ mk c x w = true := fun h => by rw [(guA_found (by omega)).2 h] at ef; cases ef
        have h0 : (lnL c w (zn : Int)).length = 0 := Classical.byContradiction fun h => hno ((lnL_ne hw0).1 h)
        have hgt : b0.length > zn := Classical.byContradiction fun h => hno ⟨b0, isCo_up h2 (by omega), h3⟩
        rw [decide_eq_true h0, h32 b0 (by omega), Option.bind_some, decide_eq_true (show (b0.length : Int) > (zn : Int) by omega)]; rfl
      | true =>
        obtain ⟨x, hx, hm⟩ := (guA_found (c := c) (w := w) (z := (zn : Int)) (by omega)).1 ef
        rw [Int.toNat_natCast] at hx
        have h0 : (lnL c w (zn : Int)).length ≠ 0 := (lnL_ne hw0).2 ⟨x, by rw [Int.toNat_natCast]; exact hx, hm⟩
        have h01 : (lnL c w ((zn + 1 : Nat) : Int)).length ≠ 0 := (lnL_ne hw0).2 ⟨x, by rw [Int.toNat_natCast]; exact isCo_up hx (by have := hx.2.1; omega), hm⟩
        have glen : ∀ k, (gl c w k).length ≤ c.2.1.length := fun k => by
          have := rise_len (lo := 0) (N := c.2.1.length) (gl_rise c w k) fun e he => by have := ((gl_mem hw0).1 he).1; omega
          omega
        have g1 := glen (zn : Int)
        have g2 := glen ((zn + 1 : Nat) : Int)
        rw [decide_eq_false h0, decide_eq_false h01, Bool.not_true, cond_false, cond_false, cond_false, Option.bind_some]
        dsimp only
        rw [show ((0 : Int) != 0) = false from rfl, cond_false]
        have hsub : ∀ p ∈ gl c w ((zn + 1 : Nat) : Int), p ∈ gl c w (zn : Int) := fun p hp => by
          obtain ⟨h5, h6⟩ := (gl_mem hw0).1 hp
          refine (gl_mem hw0).2 ⟨h5, fun x hx hm => h6 x ?_ hm⟩
          rw [Int.toNat_natCast] at hx ⊢
          exact isCo_up hx (by have := hx.2.1; omega)
        refine rangeInv (gl c w ((zn + 1 : Nat) : Int)) 0 (fun n (_ : Unit) t => W8e F (b0, 0) (some b0) (((guA c w (zn : Int)).1 : Int), true) (gl c w (zn : Int), 0) (gl c w ((zn + 1 : Nat) : Int), 0) n t) (fun xs _ => ∀ p ∈ xs, p ∈ gl c w (zn : Int)) (fun _ _ => some true) (fun n _ t p rest ht hp hI ih => ?_) (fun n _ _ => ?_) F () (by omega) hsub
        · have hpg := hI p (by simp)
          have hpb := hpg
          rw [← guA_mem (by omega) hw0, bs_mem] at hpb
          obtain ⟨j, rfl⟩ : ∃ j : Nat, p = j := ⟨p.toNat, by omega⟩
          have hlt := guS_lt (c := c) (w := w) (z := (zn : Int)) (2 ^ c.2.1.length - 1)
          have hb0 := bit_i640 (s := (guA c w (zn : Int)).1) (c := j) (by show (guS c w (zn : Int) (2 ^ c.2.1.length - 1)).1 < _; omega) (by omega)
          show l8e _ _ _ _ _ _ _ _ _ _ _ _ _ _ _ _ _ _ _ _ = _
          rw [l8e]
          dsimp only
          rw [ixA ht, cond_true, ixB ht, chk_true, Int.toNat_natCast, hp]
          rw [decide_eq_false (show ¬ (j : Int) < 0 by omega), cond_false, decide_eq_false (show ¬ (j : Int) > 9 by omega), cond_false, chk_dec (show 0 ≤ (j : Int) by omega), hb0, ixW ht (by omega)]
          rw [Int.toNat_natCast] at hpb
          rw [hpb.2.2, Bool.not_true, cond_false]
          exact ih () fun p hp => hI p (by simp [hp])
        · show l8e _ _ _ _ _ _ _ _ _ _ _ _ _ _ _ _ _ _ _ _ = _
          rw [l8e]
          dsimp only
          rw [ixE, cond_false, show ((0 : Int) == 0) = true from rfl, cond_true, cond_true, h44, Option.bind_some, h32 _ (by omega), Option.bind_some, cond_true]
          dsimp only [Option.getD_some]
          rw [h32 b0 (by omega)]
          rfl
  · exact absurd hx.2 (fun hlt => by
      have h0 : num x = 0 := by have : (1 : Int).toNat = 1 := rfl; omega
      have := bs_num hx.1.2.2.1 hx.1.2.2.2
      rw [h0] at this
      exact hx.1.1 (by rw [← this]; exact (bs_nil (Nat.two_pow_pos _)).2 rfl))
  · simp only [List.not_mem_nil, false_iff]
    rintro ⟨⟨h, _⟩, hlt⟩
    have h0 : num x = 0 := by have : (1 : Int).toNat = 1 := rfl; omega
    have := bs_num h.2.2.1 h.2.2.2
    rw [h0] at this
    exact h.1 (by rw [← this]; exact (bs_nil (Nat.two_pow_pos _)).2 rfl)
def B8 (s : Sh) (b : List Int) (z : Int) : Option Bool := if okSh s = true ∧ okB4 b = true ∧ 0 ≤ z ∧ z ≤ 255 then some true else none
theorem KB8 : FnOk Tryd.prog 8 (F8 B8) := ok8 (some true) B20 B24 B26 B28 B32 B33 B40 B43 B44 B45 B46 K15t KB20 KB24 KB26 KB28 KB32 KB33 KB40 KB43 KB44 KB45 KB46 B8 fun s b z r h => ⟨41, by
  simp only [B8] at h
  split at h
  · rename_i hh
    obtain ⟨hs, hb, hz⟩ := hh
    obtain ⟨hb4, hbr⟩ := okB4_at hb
    obtain ⟨hc, hsm, hn, hsz, hM, hP⟩ := mdC_ok hs
    obtain ⟨w1, w2⟩ := wdB_ok (b := b) hs
    have hcw : cwE (mdC s) (wdB s b (pL s)) = 0 := by rw [cwE, decide_eq_true hc, cond_true]; exact w2
    rw [← h, m8, B40, if_pos hs, Option.bind_some]
    have hM' : (mdC s).1 = mM s := rfl
    generalize hC : mdC s = c at *
    have hl0 : ((c.2.1.getD 0 []).length : Int) = (pL s : Int) := by rw [show (c.2.1.getD 0 []).length = sz c from rfl, hsz]
    rw [hl0, chk_dec (by omega), chk_of (by simp [mkOk]; omega), Int.toNat_natCast]
    have eN : w64 (1 + Int.tmod (w64 z) 4) = ((1 + (z % 4).toNat : Nat) : Int) := by
      rw [w64_small (x := z) (by omega), tmod_emod (by omega), w64_small (by omega)]; omega
    refine countP' 0 (pL s : Int) (by omega) (fun n o t => l8a (some true) B20 B24 B26 B28 B32 B33 B40 B43 B44 B45 B46 41 b z c n t o) (fun t o => o = wdB s b t.toNat ++ List.replicate (pL s - t.toNat) 0) (fun r => r = some true) (fun n o t a1 a2 hI ih => ?_) (fun n o hI => ?_) 41 (List.replicate (pL s) 0) (by omega) rfl
    · subst hI
      obtain ⟨t, rfl⟩ : ∃ j : Nat, t = j := ⟨t.toNat, by omega⟩
      have ht : t < pL s := by omega
      have hbt := hbr _ (getD_mem (l := b) (d := 0) (show t < b.length by omega))
      have hol : (wdB s b t ++ List.replicate (pL s - t) 0).length = pL s := by rw [List.length_append, wdB_len, List.length_replicate]; omega
      simp only [l8a, hl0, Int.toNat_natCast, List.length_replicate, decide_eq_true a2, cond_true, hol]
      rw [chk_dec (by omega), chk_dec (by omega), chk_dec (by omega), w64_small (x := b.getD t 0) (by omega), tmod_emod hbt.1, w64_small (x := (t : Int) + 1) (by omega), hM']
      refine ih _ ?_
      have e1 : pL s - t = (pL s - (t + 1)) + 1 := by omega
      have e2 := set_pad (a := wdB s b t) (m := pL s - (t + 1)) (v := b.getD t 0 % mM s)
      rw [wdB_len] at e2
      rw [e1, e2, show ((t : Int) + 1).toNat = t + 1 by omega, wdB_succ]
    · subst hI
      simp only [l8a, hl0, Int.toNat_natCast, List.length_replicate, decide_eq_false (Int.lt_irrefl _), cond_false, Nat.sub_self, List.replicate_zero, List.append_nil, eN]
      have h26 : B26 c (wdB s b (pL s)) ((1 + (z % 4).toNat : Nat) : Int) = some (lnL c (wdB s b (pL s)) ((1 + (z % 4).toNat : Nat) : Int), 0) := by
        rw [B26, if_pos ⟨hsm, by rw [wdB_len]; omega⟩, decide_eq_true hcw, cond_true, decide_eq_true (by omega), cond_true]
      have h24 : B24 c (wdB s b (pL s)) = some (fwF c (wdB s b (pL s)) c.2.1.length 1) := by
        rw [B24, if_pos ⟨hsm, by rw [wdB_len]; omega⟩, decide_eq_true hcw, cond_true]
      rw [h26, Option.bind_some, h24, Option.bind_some]
      exact sets8 (F := 41) (Nat.le_refl _) hc hsm hn w1 w2 (by omega) eN
  · cases h⟩
end Go.Proofs.YtbjfbbfglkmadaaDoor
