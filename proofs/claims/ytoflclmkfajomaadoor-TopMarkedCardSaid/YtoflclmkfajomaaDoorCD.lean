/-
 Codes of checked numbers: distance, doubts, frames. The whole: tables, words, codes.
-/
import Derived.Test.YtoflclmkfajomaaDoorCd1
import Derived.Test.YtoflclmkfajomaaDoorMP
import Derived.Test.YtoflclmkfajomaaDoorWG
namespace Go.Proofs.YtoflclmkfajomaaDoor
open Go.RowKit
set_option linter.unusedVariables false
open Go.RowKit

abbrev Lf := List (Int × Bool)
def Pl' (S : List Nat) : Lf := S.map fun i : Nat => ((i : Int), true)
theorem mget_Pl (i : Nat) : ∀ S : List Nat, mget (kt := .int .i64) (vt := .bool) (Pl' S) (i : Int) = if i ∈ S then some true else none
 | [] => rfl
 | j :: S => by
  show cond (decide ((i : Int) = (j : Int))) (some true) (mget (kt := .int .i64) (vt := .bool) (Pl' S) (i : Int)) = _
  rw [mget_Pl i S]
  by_cases h : i = j
  ·subst h; simp
  ·rw [decide_eq_false (by omega), cond_false]
   simp [h]
theorem mget_Pl_b (i : Nat) (S : List Nat) : (mget (kt := .int .i64) (vt := .bool) (Pl' S) (i : Int)).getD false = decide (i ∈ S) := by
 rw [mget_Pl]
 by_cases h : i ∈ S
 ·rw [if_pos h, decide_eq_true h]; rfl
 ·rw [if_neg h, decide_eq_false h]; rfl
theorem mput_Pl (i : Nat) : ∀ S : List Nat, i ∉ S → mput (kt := .int .i64) (vt := .bool) (Pl' S) (i : Int) true = Pl' (S ++ [i])
 | [], _ => rfl
 | j :: S, h => by
  have h1 : i ≠ j := fun e => h (by simp [e])
  show cond (decide ((i : Int) = (j : Int))) _ (((j : Int), true) :: mput (kt := .int .i64) (vt := .bool) (Pl' S) (i : Int) true) = _
  rw [mput_Pl i S (fun e => h (by simp [e])), decide_eq_false (by omega), cond_false]; rfl
theorem cands_co {N : Nat} {ls : List (List Int)} (h : ls ∈ cands N) : (2 ≤ ls.length ∧ ls.length ≤ 3) ∧ ∀ l ∈ ls, isCo N 2 l := by
 rw [cands, List.mem_append] at h
 rcases h with h | h
 ·simp only [prs, List.mem_flatMap, List.mem_map] at h
  obtain ⟨a, ha, b, hb, rfl⟩ := h
  refine ⟨by simp, fun l hl => ?_⟩
  simp only [List.mem_cons, List.not_mem_nil, or_false] at hl
  rcases hl with rfl | rfl
  ·exact co_mem.1 ha
  ·exact co_mem.1 hb
 ·simp only [trs, List.mem_map, List.mem_filter, decide_eq_true_eq] at h
  obtain ⟨e, ⟨he, h3⟩, rfl⟩ := h
  have hw := co_mem.1 he
  match e, hw, h3 with
  | [x, y, z], hw, _ =>
   refine ⟨by simp [tri], fun l hl => ?_⟩
   have hr := hw.2.2.1
   simp only [List.pairwise_cons, List.mem_cons, List.not_mem_nil, or_false, forall_eq_or_imp, forall_eq] at hr
   have m0 := hw.2.2.2 x (by simp)
   have m1 := hw.2.2.2 y (by simp)
   have m2 := hw.2.2.2 z (by simp)
   have two : ∀ a b : Int, a < b → 0 ≤ a → b < N → isCo N 2 [a, b] := fun a b h1 h2 h3 => by
    refine ⟨by simp, Nat.le_refl _, ?_, ?_⟩
    ·simp only [List.pairwise_cons, List.mem_cons, List.not_mem_nil, or_false, forall_eq, List.Pairwise.nil, false_imp_iff, implies_true, and_true]
     omega
    ·simp only [List.mem_cons, List.not_mem_nil, or_false, forall_eq_or_imp, forall_eq]
     omega
   have hl : l = [x, y] ∨ l = [x, z] ∨ l = [y, z] := by simpa [tri] using hl
   rcases hl with rfl | rfl | rfl
   ·exact two _ _ (by omega) (by omega) (by omega)
   ·exact two _ _ (by omega) (by omega) (by omega)
   ·exact two _ _ (by omega) (by omega) (by omega)
  | _ :: _ :: _ :: _ :: _, hw, _ => have := hw.2.1; simp only [List.length_cons] at this; omega
theorem pl_mk {c : Cd} {ls : List (List Int)} {w : List Int} (hw : w.length = sz c) (hr : ∀ m ∈ w, 0 ≤ m ∧ m < c.1) (h : ∀ l ∈ ls, mk c l w = true) : pl c ls = true := by
 rw [pl, List.all_eq_true]
 intro k hk
 have hk : k < w.length := by rw [List.mem_range'_1] at hk; omega
 have hm := hr _ (getD_mem (l := w) (d := 0) hk)
 rw [plK, List.any_eq_true]
 refine ⟨(w.getD k 0).toNat, by rw [List.mem_range'_1]; omega, List.all_eq_true.2 fun l hl => ?_⟩
 rw [show (((w.getD k 0).toNat : Nat) : Int) = w.getD k 0 by omega]
 have := h l hl
 rw [mk, List.all_eq_true] at this
 exact this k (List.mem_range.2 hk)
theorem cm2f {a b : List Int} (h : ∀ i, i ∈ a → i ∉ b) : cm [a, b] = false := by
 show (a.any fun x => decide (x ∈ a) && (decide (x ∈ b) && true)) = false
 rw [List.any_eq_false]
 intro x hx
 rw [decide_eq_false (h x hx)]; simp
theorem apF_dif : ∀ (b xs : List Int) (t : Nat) (n : Int), t + xs.length = b.length → apF b t xs n = n + (Sd.dif xs (b.drop t) : Nat)
 | b, [], t, n, h => by simp [apF, Sd.dif]
 | b, x :: xs, t, n, h => by
  have ht : t < b.length := by simp only [List.length_cons] at h; omega
  rw [apF, apF_dif b xs (t + 1) _ (by simp only [List.length_cons] at h; omega), drop_cons' (d := 0) ht, Sd.dif]
  by_cases e : x = b.getD t 0
  ·rw [if_pos e, show (x != b.getD t 0) = false by simp [e], cond_false]; omega
  ·rw [if_neg e, show (x != b.getD t 0) = true by simpa using e, cond_true]; omega
theorem ap_dif {a b : List Int} (h : a.length = b.length) : ap a b = (Sd.dif a b : Nat) := by
 rw [ap, apF_dif b a 0 0 (by omega), List.drop_zero]; omega
theorem minF_rg {lo : Int} : ∀ {l : List Int} {n : Int}, lo ≤ n → (∀ x ∈ l, lo ≤ x) → lo ≤ minF n l ∧ minF n l ≤ n
 | [], n, h, _ => ⟨h, Int.le_refl _⟩
 | x :: r, n, h, hl => by
  have hx := hl x (by simp)
  have hi : lo ≤ imin n x ∧ imin n x ≤ n := by
   unfold imin; split <;> omega
  have := minF_rg (l := r) hi.1 fun y hy => hl y (by simp [hy])
  show lo ≤ minF (imin n x) r ∧ minF (imin n x) r ≤ n
  omega
def wds (t : List (List Int)) (k : Nat) (xs : List Nat) : List (List Int) := xs.map (Sd.word t k)
structure Ok (t : List (List Int)) (k : Nat) (xs : List Nat) : Prop where
 lat : Sd.Lat t
 len : t.length ≤ 4
 k1 : 1 ≤ k ∧ k ≤ 3
 nd : xs.Nodup
 lt : ∀ x ∈ xs, x < t.length ^ k
 few : xs.length ≤ 6
abbrev cdO (t : List (List Int)) (k : Nat) (xs : List Nat) : Cd := ((t.length : Int), wds t k xs, ())
variable {t : List (List Int)} {k : Nat} {xs : List Nat}
theorem wds_at {i : Nat} (h : i < xs.length) : (wds t k xs).getD i [] = Sd.word t k (xs.getD i 0) := by
 simp [wds, List.getD_eq_getElem?_getD, h]
theorem wds_len : (wds t k xs).length = xs.length := by simp [wds]
theorem wds_two (h : Ok t k xs) {i j : Nat} (hi : i < xs.length) (hj : j < xs.length) (hne : i ≠ j) : 2 ≤ Sd.dif ((wds t k xs).getD i []) ((wds t k xs).getD j []) := by
 rw [wds_at hi, wds_at hj]
 refine Sd.word_two h.lat (h.lt _ (getD_mem hi)) (h.lt _ (getD_mem hj)) fun e => hne ?_
 simp only [List.getD_eq_getElem?_getD, List.getElem?_eq_getElem hi, List.getElem?_eq_getElem hj, Option.getD_some] at e
 exact (List.getElem_inj h.nd).1 e
theorem wds_sz (h0 : 0 < xs.length) : sz (cdO t k xs) = k + 1 := by
 show ((wds t k xs).getD 0 []).length = _
 rw [wds_at h0, Sd.word_len]
theorem wds_mem {w : List Int} (hw : w ∈ wds t k xs) : ∃ x ∈ xs, w = Sd.word t k x := by
 obtain ⟨x, hx, rfl⟩ := List.mem_map.1 hw
 exact ⟨x, hx, rfl⟩
theorem wds_err (h : Ok t k xs) (h0 : 0 < xs.length) : cdE (cdO t k xs) = 0 := by
 have := h.lat.len
 have := h.len
 have := h.k1
 have := h.few
 have hs := wds_sz (t := t) (k := k) h0
 unfold cdE
 rw [hs]
 show cond (decide (2 ≤ (t.length : Int) ∧ (t.length : Int) ≤ 4)) _ _ = _
 rw [decide_eq_true (by omega), cond_true]
 show cond (decide ((wds t k xs).length = 0)) _ (cond (decide (10 < (wds t k xs).length)) _ _) = _
 rw [wds_len, decide_eq_false (by omega), cond_false, decide_eq_false (by omega), cond_false, decide_eq_true (by omega), cond_true]
 have e1 : ((wds t k xs).any fun w => !decide (w.length = k + 1)) = false := List.any_eq_false.2 fun w hw => by
  obtain ⟨x, _, rfl⟩ := wds_mem hw
  simp [Sd.word_len]
 have e2 : ((wds t k xs).any fun w => w.any (outM (t.length : Int))) = false := List.any_eq_false.2 fun w hw => by
  obtain ⟨x, _, rfl⟩ := wds_mem hw
  rw [Bool.not_eq_true, List.any_eq_false]
  intro m hm
  have hr : 0 ≤ m ∧ m < (t.length : Int) := Sd.word_rg h.lat k x m hm
  rw [outM, w64_small (by omega), decide_eq_true (by omega)]; decide
 show cond ((wds t k xs).any fun w => !decide (w.length = k + 1)) _ (cond ((wds t k xs).any fun w => w.any (outM (t.length : Int))) _ _) = _
 rw [e1, e2]; rfl
theorem wds_small (h : Ok t k xs) : smB (cdO t k xs) = true := by
 have := h.k1
 have := h.few
 simp only [smB, Bool.and_eq_true, decide_eq_true_eq, List.all_eq_true]
 refine ⟨by rw [wds_len]; omega, fun w hw => ?_⟩
 obtain ⟨x, _, rfl⟩ := wds_mem hw
 rw [Sd.word_len]; omega
theorem wds_dist (h : Ok t k xs) (h2 : 2 ≤ xs.length) : ∃ d : Int, B8 (cdO t k xs) = some (d, 0) ∧ 2 ≤ d ∧ d ≤ (k : Int) + 1 := by
 have hk := h.k1
 have hs := wds_sz (t := t) (k := k) (xs := xs) (by omega)
 refine ⟨minF ((k + 1 : Nat) : Int) (dsFrom (wds t k xs) 0 (wds t k xs)), ?_, ?_⟩
 ·rw [B8, if_pos (wds_small h), wds_err h (by omega), decide_eq_true rfl, cond_true]
  show some (cond (decide ((wds t k xs).length = 1)) _ _) = _
  rw [wds_len, decide_eq_false (by omega), cond_false, hs]
 ·have := minF_rg (lo := 2) (l := dsFrom (wds t k xs) 0 (wds t k xs)) (n := ((k + 1 : Nat) : Int)) (by omega) ?_
  ·omega
  ·intro x hx
   simp only [dsFrom, List.mem_flatMap, dsOf, List.mem_map] at hx
   obtain ⟨⟨w, i⟩, hp, y, hy, rfl⟩ := hx
   rw [List.mem_zipIdx_iff_getElem?] at hp
   simp only at hp hy
   obtain ⟨hi, hw⟩ := List.getElem?_eq_some_iff.1 hp
   obtain ⟨j, hj, rfl⟩ := List.getElem_of_mem hy
   have hj' : j < i := by rw [List.length_take] at hj; omega
   rw [wds_len] at hi
   have two := wds_two h hi (show j < xs.length by omega) (by omega)
   have ew : (wds t k xs).getD i [] = w := by rw [List.getD_eq_getElem?_getD, hp]; rfl
   have ey : (wds t k xs).getD j [] = ((wds t k xs).take i)[j] := by
    rw [List.getElem_take, List.getD_eq_getElem?_getD, List.getElem?_eq_getElem (by rw [wds_len]; omega)]; rfl
   rw [ew, ey] at two
   have hl : w.length = (((wds t k xs).take i)[j]).length := by
    rw [← ew, ← ey, wds_at hi, wds_at (show j < xs.length by omega), Sd.word_len, Sd.word_len]
   rw [ap_dif hl]; omega
theorem fi_some {c : Cd} {l : List Int} : ∀ {ws : List (List Int)} {k : Nat} {i : Int}, fi c l k ws = some i → ∃ j : Nat, i = ((k + j : Nat) : Int) ∧ j < ws.length ∧ i ∉ l ∧ mk c l (ws.getD j []) = true
 | [], _, _, h => by cases h
 | w :: r, k, i, h => by
  rw [fi] at h
  cases e : (!decide ((k : Int) ∈ l) && mk c l w) with
  | true =>
   rw [e, cond_true] at h
   obtain rfl := Option.some.inj h
   rw [Bool.and_eq_true] at e
   exact ⟨0, rfl, by simp, by simpa using e.1, e.2⟩
  | false =>
   rw [e, cond_false] at h
   obtain ⟨j, h1, h2, h3, h4⟩ := fi_some h
   exact ⟨j + 1, by omega, by simp; omega, h3, by simpa using h4⟩
theorem frS_some {c : Cd} : ∀ {ls : List (List Int)} {b : Option (List Int) × Int}, b.1 = none → (ls.foldl (frS c) b).1 ≠ none → ∃ l ∈ ls, ∃ i, fi c l 0 c.2.1 = some i
 | [], b, hb, h => absurd hb h
 | l :: r, b, hb, h => by
  rw [List.foldl_cons] at h
  cases e : fi c l 0 c.2.1 with
  | some i => exact ⟨l, by simp, i, e⟩
  | none =>
   have : frS c b l = b := by
    rw [frS, hb, e]; rfl
   rw [this] at h
   obtain ⟨l', h1, h2⟩ := frS_some hb h
   exact ⟨l', by simp [h1], h2⟩
theorem fram_doubt (h : Ok t k xs) (h0 : 0 < xs.length) (hf : (frA (cdO t k xs) 2).1 ≠ none) : ((cands (wds t k xs).length).any fun ls => (dbF (cdO t k xs) ls).2) = true := by
 have hc := wds_err h h0
 have hn := (cdE_ok hc).2.1
 obtain ⟨l, hl, i, hi⟩ := frS_some rfl hf
 have hl' : isCo (wds t k xs).length 2 l := co_mem.1 hl
 obtain ⟨j, rfl, hj, hni, hmk⟩ := fi_some hi
 rw [Nat.zero_add] at hni
 have hj' : j < (wds t k xs).length := hj
 have ha : isCo (wds t k xs).length 2 [(j : Int)] := ⟨by simp, by simp, by simp, by simp; omega⟩
 have hmem : [l, [(j : Int)]] ∈ cands (wds t k xs).length := by
  rw [cands, List.mem_append]
  refine .inl ?_
  simp only [prs, List.mem_flatMap, List.mem_map]
  exact ⟨l, co_mem.2 hl', [(j : Int)], co_mem.2 ha, rfl⟩
 rw [List.any_eq_true]
 refine ⟨_, hmem, ?_⟩
 have hok : ∀ x ∈ [l, [(j : Int)]], okS (cdO t k xs) x = true := fun x hx => by
  simp only [List.mem_cons, List.not_mem_nil, or_false] at hx
  rcases hx with rfl | rfl
  ·exact okS_co hn.2 hl'
  ·exact okS_co hn.2 ha
 have hw : (wds t k xs).getD j [] ∈ wds t k xs := getD_mem hj'
 rw [dbF_snd hc (by simp) hok, cm2f (by intro x hx q; rw [List.mem_singleton.1 q] at hx; exact hni hx), Bool.not_false, Bool.and_true]
 refine pl_mk (w := (wds t k xs).getD j []) ((cdE_ok hc).2.2.2.1 _ hw) ((cdE_ok hc).2.2.2.2 _ hw) fun x hx => ?_
 simp only [List.mem_cons, List.not_mem_nil, or_false] at hx
 rcases hx with rfl | rfl
 ·exact hmk
 ·rw [mk, List.all_eq_true]
  intro q _
  simp
theorem dif_two {a b : List Int} (ha : a.length = 2) (hb : b.length = 2) (h : 2 ≤ Sd.dif a b) : a.getD 0 0 ≠ b.getD 0 0 := by
 match a, b, ha, hb with
 | [x, y], [u, v], _, _ =>
  simp only [Sd.dif] at h
  intro e
  have e : x = u := e
  rw [if_pos e] at h
  split at h <;> omega
theorem two_cm (h : Ok t 1 xs) (h0 : 0 < xs.length) {ls : List (List Int)} (hl : 2 ≤ ls.length ∧ ls.length ≤ 3) (hco : ∀ l ∈ ls, isCo (wds t 1 xs).length 2 l) : (dbF (cdO t 1 xs) ls).2 = false := by
 have hc := wds_err h h0
 have hn := (cdE_ok hc).2.1
 have hs := wds_sz (t := t) (k := 1) h0
 rw [dbF_snd hc (by omega) fun l hl => okS_co hn.2 (hco l hl)]
 cases ep : pl (cdO t 1 xs) ls with
 | false => rfl
 | true =>
  rw [Bool.true_and, Bool.not_eq_false']
  have hp := List.all_eq_true.1 ep 0 (by rw [List.mem_range'_1, hs]; omega)
  rw [plK, List.any_eq_true] at hp
  obtain ⟨m, _, hm⟩ := hp
  rw [List.all_eq_true] at hm
  have one : ∀ l ∈ ls, ∃ i ∈ l, (0 ≤ i ∧ i < (xs.length : Int)) ∧ ((wds t 1 xs).getD i.toNat []).getD 0 0 = (m : Int) := fun l hl => by
   obtain ⟨i, hi, he⟩ := List.any_eq_true.1 (hm l hl)
   have := (hco l hl).2.2.2 i hi
   rw [wds_len] at this
   exact ⟨i, hi, this, of_decide_eq_true he⟩
  have same : ∀ i j : Int, (0 ≤ i ∧ i < (xs.length : Int)) → (0 ≤ j ∧ j < (xs.length : Int)) → ((wds t 1 xs).getD i.toNat []).getD 0 0 = (m : Int) → ((wds t 1 xs).getD j.toNat []).getD 0 0 = (m : Int) → i = j := fun i j hi hj ei ej => by
   by_cases q : i = j
   ·exact q
   ·have hi' : i.toNat < xs.length := by omega
    have hj' : j.toNat < xs.length := by omega
    have := wds_two h hi' hj' (by omega)
    exact absurd (ei.trans ej.symm) (dif_two (by rw [wds_at hi', Sd.word_len]) (by rw [wds_at hj', Sd.word_len]) this)
  have g0 : ls.getD 0 [] ∈ ls := getD_mem (by omega)
  obtain ⟨i, hi, hr, he⟩ := one _ g0
  rw [cm, List.any_eq_true]
  refine ⟨i, hi, List.all_eq_true.2 fun l hl => decide_eq_true ?_⟩
  obtain ⟨j, hj, hrj, hej⟩ := one l hl
  rw [same i j hr hrj he hej]; exact hj
theorem two_none (h : Ok t 1 xs) (h0 : 0 < xs.length) : ((cands (wds t 1 xs).length).any fun ls => (dbF (cdO t 1 xs) ls).2) = false := by
 rw [List.any_eq_false]
 intro ls hls
 obtain ⟨a, b⟩ := cands_co hls
 rw [two_cm h h0 a b]; decide
theorem wds_doubt (h : Ok t k xs) (h0 : 0 < xs.length) : ∃ (d : Db) (f : List Int × Int × Int) (v : Int), B9 (cdO t k xs) = some (d, v) ∧ B10 (cdO t k xs) 2 = some f ∧ (v = 14 → f.2.2 = 5) ∧ (k = 1 → v = 14) := by
 have hc := wds_err h h0
 refine ⟨(dbV (cdO t k xs)).1, frR (frA (cdO t k xs) 2), (dbV (cdO t k xs)).2, if_pos (wds_small h), ?_, ?_, ?_⟩
 ·rw [B10, if_pos (wds_small h), hc]; rfl
 all_goals rw [dbV, hc, decide_eq_true (show (0 : Int) = 0 from rfl), cond_true, dbO_snd]
 ·intro hv
  cases e : (frA (cdO t k xs) 2).1 with
  | none => rw [frR, e]
  | some l =>
   rw [fram_doubt h h0 (by rw [e]; simp), cond_true] at hv
   cases hv
 ·rintro rfl
  rw [two_none h h0]; rfl
open Go.RowKit

theorem three {b : Int} (h0 : 0 ≤ b) (h1 : b ≤ 255) : w64 ((2 : Int) + Int.tmod (w64 b) 3) = ((2 + b.toNat % 3 : Nat) : Int) := by
 rw [w64_small (x := b) (by omega), Int.tmod_eq_emod_of_nonneg h0, w64_small (by omega)]; omega
theorem K7t : FnOk Tryd.prog 7 (F7 (some true)) := fun args o x h => by
 simp only [F7] at h
 split at h
 ·obtain rfl := Option.some.inj h; exact H7 [] [] _ works7
 ·cases h
section
variable {t : List (List Int)} {k : Nat} {xs : List Nat} {N : Nat} {base size : Int} {cs : List Int}
theorem end_ok (h : Ok t k xs) (eb : w64 ((2 : Int) + Int.tmod (w64 base) 3) = (t.length : Int)) (es : w64 ((2 : Int) + Int.tmod (w64 size) 3) = (k : Int) + 1) {r1 : List (List Int)} {i all : Int} {n : Nat} {o : List (Int × Bool)} (hi : ¬ (i < (cs.length : Int) ∧ i < 6)) :
  l3b B10 Sr.B4 Sr.B5 Sd.B6 (some true) B8 B9 N base size cs r1 all (n + 1) i (wds t k xs) o = some true := by
 have two : ∀ A : Option Bool, cond (decide (i < (cs.length : Int))) (cond (decide (i < 6)) A (some true)) (some true) = some true := fun A => by
  by_cases q : i < (cs.length : Int)
  ·rw [decide_eq_true q, cond_true, decide_eq_false (fun q2 => hi ⟨q, q2⟩), cond_false]
  ·rw [decide_eq_false q, cond_false]
 simp only [l3b, eb, es, wds_len]
 by_cases h2 : xs.length < 2
 ·simp only [decide_eq_true (show (xs.length : Int) < 2 by omega), cond_true, Option.bind_some]
  exact two _
 ·obtain ⟨d, e8, d1, d2⟩ := wds_dist h (by omega)
  obtain ⟨db, f, v, e9, e10, v1, v2⟩ := wds_doubt h (by omega)
  have e8 : B8 ((t.length : Int), (wds t k xs, ())) = some (d, 0) := e8
  have e9 : B9 ((t.length : Int), (wds t k xs, ())) = some (db, v) := e9
  have e10 : B10 ((t.length : Int), (wds t k xs, ())) 2 = some f := e10
  simp only [decide_eq_false (show ¬ (xs.length : Int) < 2 by omega), cond_false, e8, e9, e10, Option.bind_some, decide_eq_false (show ¬ d < 2 by omega), decide_eq_false (show ¬ d > (k : Int) + 1 by omega), bneDec, beqDec]
  by_cases hv : v = 14
  ·have hf := v1 hv
   simp only [hv, hf, decide_true, Bool.not_true, cond_false, cond_true, Bool.cond_self]
   exact two _
  ·have hk : ¬ (k : Int) + 1 = 2 := fun q => hv (v2 (by omega))
   simp only [decide_eq_false hv, decide_eq_false hk, Bool.not_false, cond_false, cond_true]
   exact two _
theorem loop_ok (hN : True) (eb : w64 ((2 : Int) + Int.tmod (w64 base) 3) = (t.length : Int)) (es : w64 ((2 : Int) + Int.tmod (w64 size) 3) = (k : Int) + 1) (hcs : ∀ x ∈ cs, 0 ≤ x ∧ x ≤ 255) (hb : Sr.latB t = true) :
  ∀ (m i n : Nat) (xs : List Nat), i + m = 6 → m < n → Ok t k xs → xs.length ≤ i → l3b B10 Sr.B4 Sr.B5 Sd.B6 (some true) B8 B9 N base size cs t ((t.length ^ k : Nat) : Int) n (i : Int) (wds t k xs) (Pl' xs) = some true
 | m, i, 0, xs, _, h, _, _ => by omega
 | 0, i, n + 1, xs, hi, _, h, _ => end_ok h eb es (by omega)
 | m + 1, i, n + 1, xs, hi, hn, h, hl => by
  by_cases hc : i < cs.length
  ·have hy : 0 ≤ cs.getD i 0 ∧ cs.getD i 0 ≤ 255 := hcs _ (getD_mem hc)
   have hk := h.k1
   have ht := h.lat.len
   have hp : 0 < t.length ^ k := Nat.pow_pos (by omega)
   have ex : Int.tmod (w64 (cs.getD i 0)) ((t.length ^ k : Nat) : Int) = (((cs.getD i 0).toNat % t.length ^ k : Nat) : Int) := by
    rw [w64_small (by omega), Int.tmod_eq_emod_of_nonneg hy.1, Int.natCast_emod]
    congr 1; omega
   have hx := Nat.mod_lt (cs.getD i 0).toNat hp
   generalize (cs.getD i 0).toNat % t.length ^ k = x at ex hx
   simp only [l3b, ixA hc, cond_true, decide_eq_true (show (i : Int) < 6 by omega), ixB hc, chk_true, Int.toNat_natCast, decide_eq_true (show ((t.length ^ k : Nat) : Int) ≠ 0 by omega), ex, es, w64_small (x := (i : Int) + 1) (by omega)]
   by_cases hm : x ∈ xs
   ·have hmg := mget_Pl_b x xs; rw [decide_eq_true hm] at hmg; simp only [hmg, cond_true]
    have := loop_ok hN eb es hcs hb m (i + 1) n xs (by omega) (by omega) h (by omega)
    exact this
   ·have e6 : Sd.B6 t ((k : Int) + 1) (x : Int) = some (Sd.word t k x, 0) := by
     have e : ((k : Int) + 1 - 1).toNat = k := by omega
     rw [Sd.B6, if_pos ⟨⟨if_pos hb, hb⟩, by omega, by omega, by rw [e, Int.toNat_natCast]; exact hx⟩, e, Int.toNat_natCast]
    have q1 : ((0 : Int) != 0) = false := rfl
    have ew : wds t k xs ++ [Sd.word t k x] = wds t k (xs ++ [x]) := by simp [wds]
    have hmg := mget_Pl_b x xs; rw [decide_eq_false hm] at hmg; simp only [hmg, cond_false, e6, Option.bind_some, q1]
    rw [chk_of (small_of (by rw [wds_len]; omega) (by decide)), mput_Pl x xs hm, ew]
    refine loop_ok hN eb es hcs hb m (i + 1) n (xs ++ [x]) (by omega) (by omega) ⟨h.lat, h.len, h.k1, ?_, ?_, by simp; omega⟩ (by simp; omega)
    ·rw [List.nodup_append]
     exact ⟨h.nd, by simp, fun a ha b hb => by rw [List.mem_singleton.1 hb]; exact fun q => hm (q ▸ ha)⟩
    ·intro y hy
     rcases List.mem_append.1 hy with q | q
     ·exact h.lt y q
     ·rw [List.mem_singleton.1 q]; exact hx
  ·exact end_ok h eb es (by omega)
end

def u8L (l : List Int) : Prop := ∀ x ∈ l, 0 ≤ x ∧ x ≤ 255
open Classical in
noncomputable def B3 (base : Int) (rows nums : List Int) (size : Int) (cs : List Int) : Option Bool := if (0 ≤ base ∧ base ≤ 255) ∧ u8L rows ∧ u8L nums ∧ (0 ≤ size ∧ size ≤ 255) ∧ u8L cs then some true else none
theorem KB3 : FnOk Tryd.prog 3 (F3 B3) := ok3 B10 Sr.B4 Sr.B5 Sd.B6 (some true) B8 B9 KB10 Sr.KB4 Sr.KB5 Sd.KB6 K7t KB8 KB9 B3 fun base rows nums size cs r h => ⟨1001, by
 simp only [B3] at h
 split at h
 ·rename_i hh
  obtain ⟨hb, hr, hn, hs, hc⟩ := hh
  rw [← h]
  obtain ⟨t, e4, el, et⟩ := Sr.B12_ok (n := 2 + base.toNat % 3) (by omega) (q1 := rows) (q2 := nums) ⟨trivial, hr⟩ ⟨trivial, hn⟩
  have eb := three hb.1 hb.2
  have es := three hs.1 hs.2
  rw [m3, eb, e4, Option.bind_some, Sr.B5, if_pos et, Option.bind_some, show ((0 : Int) != 0) = false from rfl, cond_false]
  rw [← el] at eb
  have ek : ((2 + size.toNat % 3 : Nat) : Int) = ((1 + size.toNat % 3 : Nat) : Int) + 1 := by omega
  have hlat : Sd.Lat t := Sd.lat_of et
  have h4 : t.length ≤ 4 := by omega
  have main : ∀ (j i n : Nat), i + j = 1 + size.toNat % 3 → j < n → l3a B10 Sr.B4 Sr.B5 Sd.B6 (some true) B8 B9 1001 base size cs t n ((t.length ^ i : Nat) : Int) ((i + 1 : Nat) : Int) = some true := by
   intro j
   induction j with
   | zero =>
    intro i n h1 h2
    obtain ⟨n, rfl⟩ : ∃ q, n = q + 1 := ⟨n - 1, by omega⟩
    simp only [l3a, es]
    rw [decide_eq_false (by omega), cond_false]
    obtain rfl : i = 1 + size.toNat % 3 := by omega
    exact loop_ok trivial eb (es.trans ek) hc et 6 0 1001 [] rfl (by omega) ⟨hlat, h4, by omega, .nil, (fun _ q => by cases q), by simp⟩ (Nat.le_refl _)
   | succ j ih =>
    intro i n h1 h2
    obtain ⟨n, rfl⟩ : ∃ q, n = q + 1 := ⟨n - 1, by omega⟩
    have hp : t.length ^ i * t.length ≤ 4 ^ 3 * 4 := Nat.mul_le_mul (Nat.le_trans (Nat.pow_le_pow_left h4 i) (Nat.pow_le_pow_right (by omega) (by omega))) h4
    have e1 : w64 (((t.length ^ i : Nat) : Int) * (t.length : Int)) = ((t.length ^ (i + 1) : Nat) : Int) := by
     rw [Nat.pow_succ, ← Int.natCast_mul, w64_nat (by omega)]
    have e2 : w64 (((i + 1 : Nat) : Int) + 1) = ((i + 1 + 1 : Nat) : Int) := by rw [w64_small (by omega)]; omega
    simp only [l3a, es, eb, e1, e2]
    rw [decide_eq_true (by omega), cond_true]
    exact ih (i + 1) n (by omega) (by omega)
  exact main (1 + size.toNat % 3) 0 1001 (by omega) (by omega)
 ·cases h⟩
end Go.Proofs.YtoflclmkfajomaaDoor
