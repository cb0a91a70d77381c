/-
 A code convicts just if no candidate for a doubt is one.
-/
import Derived.Test.YtbjfbbfglkmadaaDoorX2
import Derived.Test.YtbjfbbfglkmadaaDoorX3
namespace Go.Proofs.YtbjfbbfglkmadaaDoor
open Go.RowKit
set_option linter.unusedVariables false

theorem cands_co {N : Nat} {ls : List (List Int)} (h : ls ∈ cands N) : (2 ≤ ls.length ∧ ls.length ≤ 3) ∧ ∀ l ∈ ls, isCo N 2 l := by
 rw [cands, List.mem_append] at h
 rcases h with h | h
 ·simp only [prs, List.mem_flatMap, List.mem_map] at h
  obtain ⟨a, ha, b, hb, rfl⟩ := h
  refine ⟨by simp, fun l hl => ?_⟩
  simp only [List.mem_cons, List.not_mem_nil, or_false] at hl
  rcases hl with rfl | rfl
  ·exact co_mem.1 ha
  ·exact co_mem.1 hb
 ·simp only [trs, List.mem_map, List.mem_filter, dtq] at h
  obtain ⟨e, ⟨he, h3⟩, rfl⟩ := h
  have hw := co_mem.1 he
  match e, hw, h3 with
  | [x, y, z], hw, _ =>
   refine ⟨by simp [tri], fun l hl => ?_⟩
   have hr := hw.2.2.1
   simp only [List.pairwise_cons, List.mem_cons, List.not_mem_nil, or_false, forall_eq_or_imp, forall_eq] at hr
   have m0 := hw.2.2.2 x (by simp)
   have m1 := hw.2.2.2 y (by simp)
   have m2 := hw.2.2.2 z (by simp)
   have two : ∀ a b : Int, a < b → 0 ≤ a → b < N → isCo N 2 [a, b] := fun a b h1 h2 h3 => by
    refine ⟨by simp, Nat.le_refl _, ?_, ?_⟩
    ·simp only [List.pairwise_cons, List.mem_cons, List.not_mem_nil, or_false, forall_eq, List.Pairwise.nil, false_imp_iff, implies_true, and_true]
     omega
    ·simp only [List.mem_cons, List.not_mem_nil, or_false, forall_eq_or_imp, forall_eq]
     omega
   have hl : l = [x, y] ∨ l = [x, z] ∨ l = [y, z] := by simpa [tri] using hl
   rcases hl with rfl | rfl | rfl
   ·exact two _ _ (by omega) (by omega) (by omega)
   ·exact two _ _ (by omega) (by omega) (by omega)
   ·exact two _ _ (by omega) (by omega) (by omega)
  | _ :: _ :: _ :: _ :: _, hw, _ => have := hw.2.1; simp only [List.length_cons] at this; omega
theorem doubt_word {c : Cd} {ls : List (List Int)} (hc : cdE c = 0) (h0 : 2 ≤ ls.length ∧ ls.length ≤ 3) (hco : ∀ l ∈ ls, isCo c.2.1.length 2 l) (h : (dbF c ls).2 = true) :
  ∃ wd, (dbF c ls).1 = (wd, ls, ()) ∧ wd.length = sz c ∧ (∀ m ∈ wd, 0 ≤ m ∧ m < c.1) ∧ (∀ l ∈ ls, mk c l wd = true) ∧ cm ls = false := by
 obtain ⟨hm, hn, hz, hlen, hb⟩ := cdE_ok hc
 have hok : ∀ l ∈ ls, okS c l = true := fun l hl => okS_co hn.2 (hco l hl)
 have h' := h
 rw [dbF_snd hc (by omega) hok, bae] at h'
 obtain ⟨hp, hcm⟩ := h'
 have hall : ((List.range' 0 (sz c)).all fun k => decide (0 ≤ fb (anA c (ls.drop 1) (mkN c (ls.getD 0 [])) k))) = true := by
  cases e : (List.range' 0 (sz c)).all fun k => decide (0 ≤ fb (anA c (ls.drop 1) (mkN c (ls.getD 0 [])) k)) with
  | true => rfl
  | false => rw [dbF, fin78, e] at h; cases h
 have e1 : (dbF c ls).1 = ((List.range' 0 (sz c)).map fun k => fb (anA c (ls.drop 1) (mkN c (ls.getD 0 [])) k), ls, ()) := by
  rw [dbF, fin78, hall]; rfl
 rw [List.all_eq_true] at hall
 have mark : ∀ k, k < sz c → ∃ m : Nat, fb (anA c (ls.drop 1) (mkN c (ls.getD 0 [])) k) = (m : Int) ∧ (m : Int) < c.1 ∧ ∀ l ∈ ls, hsM c l k (m : Int) = true := fun k hk => by
  obtain ⟨m, h1, h2, h3⟩ := fb_at (of_decide_eq_true (hall k (by rw [List.mem_range'_1]; omega)))
  rw [an_bit hc (by omega) hok hk, List.all_eq_true] at h3
  exact ⟨m, h2, (hsM_lt hc (okS_at (hok _ (getD_mem (d := []) (show 0 < ls.length by omega)))).2.1 hk (h3 _ (getD_mem (d := []) (by omega)))).2, h3⟩
 refine ⟨_, e1, by simp, fun m hm => ?_, fun l hl => ?_, by cases e : cm ls with
  | false => rfl
  | true => rw [e] at hcm; cases hcm⟩
 ·obtain ⟨k, hk, rfl⟩ := List.mem_map.1 hm
  rw [List.mem_range'_1] at hk
  obtain ⟨m', q1, q2, _⟩ := mark k (by omega)
  rw [q1]; omega
 ·rw [mk, List.all_eq_true]
  intro k hk
  have hk := List.mem_range.1 hk
  simp only [List.length_map, List.length_range'] at hk
  obtain ⟨m, q1, _, q3⟩ := mark k hk
  have := q3 l hl
  rw [List.getD_eq_getElem?_getD (l := List.map _ _), List.getElem?_map, List.getElem?_range' hk]
  simp only [Option.map_some, Option.getD_some, Nat.zero_add, Nat.one_mul]
  rw [q1]
  exact this
theorem pl_mk {c : Cd} {ls : List (List Int)} {w : List Int} (hw : w.length = sz c) (hr : ∀ m ∈ w, 0 ≤ m ∧ m < c.1) (h : ∀ l ∈ ls, mk c l w = true) : pl c ls = true := by
 rw [pl, List.all_eq_true]
 intro k hk
 have hk : k < w.length := by rw [List.mem_range'_1] at hk; omega
 have hm := hr _ (getD_mem (l := w) (d := 0) hk)
 rw [plK, List.any_eq_true]
 refine ⟨(w.getD k 0).toNat, by rw [List.mem_range'_1]; omega, List.all_eq_true.2 fun l hl => ?_⟩
 rw [show (((w.getD k 0).toNat : Nat) : Int) = w.getD k 0 by omega]
 have := h l hl
 rw [mk, List.all_eq_true] at this
 exact this k (List.mem_range.2 hk)
theorem isCo2_eq {N : Nat} {y : List Int} {u v : Int} (h : isCo N 2 y) (hu : u ∈ y) (hv : v ∈ y) (huv : u < v) : y = [u, v] := by
 obtain ⟨_, h2, h3, _⟩ := h
 match y, h2, h3, hu, hv with
 | [a], _, _, hu, hv =>
  rw [List.mem_singleton] at hu hv; omega
 | [a, b], _, h3, hu, hv =>
  simp only [List.pairwise_cons, List.mem_cons, List.not_mem_nil, or_false, forall_eq] at h3 hu hv
  have := h3.1
  rcases hu with rfl | rfl <;> rcases hv with rfl | rfl
  ·omega
  ·rfl
  ·omega
  ·omega
 | _ :: _ :: _ :: _, h2, _, _, _ => simp only [List.length_cons] at h2; omega
theorem cm2f {a b : List Int} (h : ∀ i, i ∈ a → i ∉ b) : cm [a, b] = false := by
 show (a.any fun x => decide (x ∈ a) && (decide (x ∈ b) && true)) = false
 rw [List.any_eq_false]
 intro x hx
 rw [decide_eq_false (h x hx)]; simp
def cvW (c : Cd) (w : List Int) : Bool := !(guA c w 2).2 || decide (0 < (guA c w 2).1)
def cvA (c : Cd) : Bool := (wds c.1.toNat (sz c)).all (cvW c)
theorem gu_some {c : Cd} {w : List Int} (hw : 0 < w.length) : 0 < (guA c w 2).1 ↔ ∃ i, i ∈ gl c w 2 := by
 rw [← guA_mem (by decide) hw]
 have hlt : (guA c w 2).1 < 2 ^ c.2.1.length := guS_lt _
 constructor
 ·intro h
  cases e : bs c.2.1.length (guA c w 2).1 with
  | nil => have := (bs_nil hlt).1 e; omega
  | cons i r => exact ⟨i, by simp⟩
 ·rintro ⟨i, hi⟩
  refine Nat.pos_of_ne_zero fun h0 => ?_
  rw [(bs_nil hlt).2 h0] at hi; cases hi
theorem convicts {c : Cd} (hc : cdE c = 0) : cvA c = !((cands c.2.1.length).any fun ls => (dbF c ls).2) := by
 obtain ⟨hm, hn, hz, hlen, hb⟩ := cdE_ok hc
 cases e : (cands c.2.1.length).any fun ls => (dbF c ls).2 with
 | true =>
  obtain ⟨ls, hls, hd⟩ := List.any_eq_true.1 e
  obtain ⟨h1, h2⟩ := cands_co hls
  obtain ⟨wd, _, w1, w2, w3, w4⟩ := doubt_word hc h1 h2 hd
  rw [Bool.not_true, cvA, List.all_eq_false]
  refine ⟨wd, wds_mem.2 ⟨w1, fun m hm => by have := w2 m hm; omega⟩, ?_⟩
  have hf : (guA c wd 2).2 = true := (guA_found (by decide)).2 ⟨ls.getD 0 [], h2 _ (getD_mem (by omega)), w3 _ (getD_mem (by omega))⟩
  rw [cvW, hf, Bool.not_true, Bool.false_or, dtq, gu_some (by omega)]
  rintro ⟨i, hi⟩
  have hall := ((gl_mem (show 0 < wd.length by omega)).1 hi).2
  have : cm ls = true := List.any_eq_true.2 ⟨i, hall _ (h2 _ (getD_mem (by omega))) (w3 _ (getD_mem (by omega))), List.all_eq_true.2 fun l hl => decide_eq_true (hall l (h2 l hl) (w3 l hl))⟩
  rw [w4] at this; cases this
 | false =>
  rw [List.any_eq_false] at e
  rw [Bool.not_false, cvA, List.all_eq_true]
  intro w hw
  obtain ⟨hwl, hwr⟩ := wds_mem.1 hw
  have hwr' : ∀ m ∈ w, 0 ≤ m ∧ m < c.1 := fun m hm => by have := hwr m hm; omega
  have hw0 : 0 < w.length := by omega
  refine Classical.byContradiction fun hno => ?_
  rw [cvW, Bool.or_eq_true, not_or, Bool.not_eq_true', Bool.not_eq_false, dtq, gu_some hw0] at hno
  obtain ⟨hf, hg⟩ := hno
  obtain ⟨x0, hx0, hm0⟩ := (guA_found (by decide)).1 hf
  -- a doubt by some coalitions
  have show_ : ∀ ls, ls ∈ cands c.2.1.length → (∀ l ∈ ls, mk c l w = true) → cm ls = true := fun ls hls hmk => by
   obtain ⟨h1, h2⟩ := cands_co hls
   have hd := e ls hls
   rw [dbF_snd hc (by omega) fun l hl => okS_co hn.2 (h2 l hl), pl_mk hwl hwr' hmk, Bool.true_and] at hd
   simpa using hd
  have D : ∀ a b, isCo c.2.1.length 2 a → mk c a w = true → isCo c.2.1.length 2 b → mk c b w = true → ∃ i, i ∈ a ∧ i ∈ b := fun a b ha hma hb hmb => Classical.byContradiction fun hno => by
   have := show_ [a, b] (List.mem_append_left _ (List.mem_flatMap.2 ⟨_, co_mem.2 ha, List.mem_map.2 ⟨_, co_mem.2 hb, rfl⟩⟩)) fun l hl => by
    simp only [List.mem_cons, List.not_mem_nil, or_false] at hl
    rcases hl with rfl | rfl <;> assumption
   rw [cm2f fun i hi hi' => hno ⟨i, hi, hi'⟩] at this; cases this
  have H : ∀ i, 0 ≤ i ∧ i < (c.2.1.length : Int) → ∃ x, isCo c.2.1.length 2 x ∧ mk c x w = true ∧ i ∉ x := fun i hi => Classical.byContradiction fun hno => hg ⟨i, (gl_mem hw0).2 ⟨hi, fun x hx hmx => Classical.byContradiction fun hix => hno ⟨x, hx, hmx, hix⟩⟩⟩
  have T : ∀ a b d : Int, a < b → b < d → 0 ≤ a → d < (c.2.1.length : Int) → mk c [a, b] w = true → mk c [a, d] w = true → mk c [b, d] w = true → False := fun a b d h1 h2 h3 h4 m1 m2 m3 => by
   have hco : isCo c.2.1.length 3 [a, b, d] := by
    refine ⟨by simp, Nat.le_refl _, ?_, ?_⟩
    ·simp only [List.pairwise_cons, List.mem_cons, List.not_mem_nil, or_false, forall_eq_or_imp, forall_eq, List.Pairwise.nil, false_imp_iff, implies_true, and_true]
     omega
    ·simp only [List.mem_cons, List.not_mem_nil, or_false, forall_eq_or_imp, forall_eq]
     omega
   have hcm := show_ (tri [a, b, d]) (List.mem_append_right _ (List.mem_map.2 ⟨_, List.mem_filter.2 ⟨co_mem.2 hco, by simp⟩, rfl⟩)) fun l hl => by
    have hl : l = [a, b] ∨ l = [a, d] ∨ l = [b, d] := by simpa [tri] using hl
    rcases hl with rfl | rfl | rfl <;> assumption
   have : ∃ x, (x = a ∨ x = b) ∧ (x = a ∨ x = d) ∧ (x = b ∨ x = d) := by
    obtain ⟨x, hx, hall⟩ := List.any_eq_true.1 hcm
    rw [List.all_eq_true] at hall
    have q1 := of_decide_eq_true (hall [a, b] (by simp [tri]))
    have q2 := of_decide_eq_true (hall [a, d] (by simp [tri]))
    have q3 := of_decide_eq_true (hall [b, d] (by simp [tri]))
    exact ⟨x, by simpa using q1, by simpa using q2, by simpa using q3⟩
   omega
  match x0, hx0, hm0 with
  | [], hx, _ => exact hx.1 rfl
  | [p], hx, hmx =>
   obtain ⟨y, y1, y2, y3⟩ := H p (hx.2.2.2 p (by simp))
   obtain ⟨i, i1, i2⟩ := D [p] y hx hmx y1 y2
   rw [List.mem_singleton] at i1
   subst i1; exact y3 i2
  | [p, q], hx, hmx =>
   have hpq : p < q := by
    have := hx.2.2.1
    simp only [List.pairwise_cons, List.mem_cons, List.not_mem_nil, or_false, forall_eq] at this
    exact this.1
   have hp := hx.2.2.2 p (by simp)
   have hq := hx.2.2.2 q (by simp)
   obtain ⟨y, y1, y2, y3⟩ := H p hp
   obtain ⟨z, z1, z2, z3⟩ := H q hq
   have hqy : q ∈ y := by
    obtain ⟨i, i1, i2⟩ := D [p, q] y hx hmx y1 y2
    simp only [List.mem_cons, List.not_mem_nil, or_false] at i1
    rcases i1 with rfl | rfl
    ·exact absurd i2 y3
    ·exact i2
   have hpz : p ∈ z := by
    obtain ⟨i, i1, i2⟩ := D [p, q] z hx hmx z1 z2
    simp only [List.mem_cons, List.not_mem_nil, or_false] at i1
    rcases i1 with rfl | rfl
    ·exact i2
    ·exact absurd i2 z3
   obtain ⟨r, r1, r2⟩ := D y z y1 y2 z1 z2
   have hr := y1.2.2.2 r r1
   have hrp : r ≠ p := fun h => y3 (h ▸ r1)
   have hrq : r ≠ q := fun h => z3 (h ▸ r2)
   by_cases c1 : r < p
   ·rw [isCo2_eq y1 r1 hqy (by omega)] at y2
    rw [isCo2_eq z1 r2 hpz (by omega)] at z2
    exact T r p q (by omega) (by omega) (by omega) (by omega) z2 y2 hmx
   ·by_cases c2 : r < q
    ·rw [isCo2_eq y1 r1 hqy (by omega)] at y2
     rw [isCo2_eq z1 hpz r2 (by omega)] at z2
     exact T p r q (by omega) (by omega) (by omega) (by omega) z2 hmx y2
    ·rw [isCo2_eq y1 hqy r1 (by omega)] at y2
     rw [isCo2_eq z1 hpz r2 (by omega)] at z2
     exact T p q r (by omega) (by omega) (by omega) (by omega) hmx z2 y2
  | _ :: _ :: _ :: _, hx, _ => have := hx.2.1; simp only [List.length_cons] at this; omega
theorem cwE_of {c : Cd} {w : List Int} (hc : cdE c = 0) (hw : w.length = sz c) (hr : ∀ m ∈ w, 0 ≤ m ∧ m < c.1) : cwE c w = 0 := by
 have hm := (cdE_ok hc).1
 rw [cwE, decide_eq_true hc, cond_true, wE, decide_eq_true hw, cond_true]
 have : w.any (outM c.1) = false := List.any_eq_false.2 fun m hmm => by
  have := hr m hmm
  simp only [outM, Bool.not_eq_true, Bool.not_eq_false', dtq]
  rw [w64_small (by omega)]; omega
 rw [this]; rfl
theorem gu_two {c : Cd} {w : List Int} (hw : cwE c w = 0) : guV c w 2 = cond (guA c w 2).2 (gl c w 2, 0) ([], 14) := by
 obtain ⟨hc, hwe⟩ := cwE_ok hw
 have hz := (cdE_ok hc).2.2.1
 have hwl := (wE_ok hwe hc).1
 rw [guV, decide_eq_true hw, cond_true, decide_eq_true (show (1 : Int) ≤ 2 ∧ (2 : Int) ≤ 10 by decide), cond_true]
 have h1 := guA_found (c := c) (w := w) (z := 2) (by decide)
 have h2 := lnL_ne (c := c) (w := w) (z := 2) (by omega)
 cases e : (guA c w 2).2 with
 | true => rw [decide_eq_false (h2.2 (h1.1 e))]; rfl
 | false =>
  rw [decide_eq_true (Classical.byContradiction fun h => by rw [h1.2 (h2.1 h)] at e; cases e)]; rfl
theorem gl_len {c : Cd} {w : List Int} (hn : c.2.1.length ≤ 10) : (gl c w 2).length ≤ 10 := by
 have := rise_len (lo := 0) (N := c.2.1.length) (gl_rise c w 2) fun e he => by
  have := (glF_mem.1 he).1
  omega
 omega
end Go.Proofs.YtbjfbbfglkmadaaDoor
