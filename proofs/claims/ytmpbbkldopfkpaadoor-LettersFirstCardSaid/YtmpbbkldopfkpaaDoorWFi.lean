/-
  The law LettersFirst returns true and turns nothing that was there; the tables are what the program lays.
-/
import Derived.Test.YtmpbbkldopfkpaaDoorL16
import Derived.Test.YtmpbbkldopfkpaaDoorQM5
import Derived.Test.YtmpbbkldopfkpaaDoorWC0
import Derived.Test.YtmpbbkldopfkpaaDoorRows
import Derived.Test.YtmpbbkldopfkpaaDoorLD
import Derived.WalkKit
import Derived.ProofKit
import Derived.OpenShut
import Derived.ChangeOld
import Derived.Below
namespace Go.Proofs.YtmpbbkldopfkpaaDoor.lettersFirst
open Go.RowKit Go.ChangeShapes Go.WideShapes Go.ChangeAt
set_option linter.unusedVariables false
theorem wfU {z : Int} (h : DT.wf (.int .u8) z) : u8z z := by
  have := bounds_u8 (show (Lit.int .u8 z).wf = true from h)
  unfold u8z; omega
theorem wfLs {y : List Int} (h : DT.wf (.sl (.int .u8)) y) : u8l y := by
  obtain ⟨h1, h2⟩ := (show y.length ≤ maxLen ∧ ∀ j, j < y.length → (Lit.int .u8 (y.getD j 0)).wf = true from h)
  refine ⟨fun z hz => ?_, h1⟩
  obtain ⟨j, hj, rfl⟩ := List.getElem_of_mem hz
  have := wfU (show DT.wf (.int .u8) _ from h2 j hj)
  rw [List.getD_eq_getElem?_getD, List.getElem?_eq_getElem hj] at this
  exact this
theorem wfDq {y : Int × Int × Unit} (h : DT.wf (.pair (.int .u8) (.pair (.int .u8) .unit)) y) : u8z y.1 ∧ u8z y.2.1 := by
  obtain ⟨h1, h2, _⟩ := (show DT.wf (.int .u8) y.1 ∧ DT.wf (.int .u8) y.2.1 ∧ True from h)
  exact ⟨wfU h1, wfU h2⟩

theorem bytesLess_le : ∀ {x c : Wd}, lexLe x c → Op.bytesLess c x = false
  | [], c, _ => by cases c <;> rfl
  | _ :: _, [], h => h.elim
  | z :: x, y :: c, h => by
    show (decide (y < z) || (y == z && Op.bytesLess c x)) = false
    rcases h with h | ⟨rfl, h⟩
    · rw [decide_eq_false (fun q => by have := UInt8.lt_iff_toNat_lt.1 q; omega), beq_eq_false_iff_ne.2 (fun e => by rw [e] at h; omega)]; rfl
    · rw [decide_eq_false (fun q => by have := UInt8.lt_iff_toNat_lt.1 q; omega), bytesLess_le h, Bool.and_false]; rfl

theorem mem_getD {l : Wd} {b : UInt8} (h : b ∈ l) : ∃ j, j < l.length ∧ l.getD j 0 = b := by
  obtain ⟨j, hj, e⟩ := List.getElem_of_mem h
  exact ⟨j, hj, by rw [List.getD_eq_getElem?_getD, List.getElem?_eq_getElem hj]; exact e⟩
theorem getD_drop' {l : Wd} {i : Nat} {b : UInt8} {r : Wd} (h : l.drop i = b :: r) : i < l.length ∧ l.getD i 0 = b ∧ l.drop (i + 1) = r := by
  have hi : i < l.length := by
    rcases Nat.lt_or_ge i l.length with q | q
    · exact q
    · rw [List.drop_eq_nil_of_le q] at h; cases h
  rw [List.drop_eq_getElem_cons hi] at h
  obtain ⟨h1, h2⟩ := List.cons.inj h
  exact ⟨hi, by rw [List.getD_eq_getElem?_getD, List.getElem?_eq_getElem hi]; exact h1, h2⟩

/-- What is known of the steps. -/
structure StOk (o : Of) (S : List Wd) : Prop where
  len : S.length ≤ 7
  lets : ∀ t, t < S.length → (∀ b ∈ S.getD t [], isL b) ∧ (S.getD t []).length ≤ 6
  some' : ∀ t, t < S.length → S.getD t [] ≠ []
  up : ∀ t k, t < S.length → 0 < k → k < (S.getD t []).length → ((S.getD t []).getD (k - 1) 0).toNat ≤ ((S.getD t []).getD k 0).toNat
  free : ∀ t m k, t < S.length → m < k → k < (S.getD t []).length → Do o ((S.getD t []).getD m 0) ((S.getD t []).getD k 0) = false
  held : ∀ t k, 0 < t → t < S.length → k < (S.getD t []).length → ∃ j, j < (S.getD (t - 1) []).length ∧ Do o ((S.getD (t - 1) []).getD j 0) ((S.getD t []).getD k 0) = true

theorem stok {o : Of} (h0 : errO o = 0) {a : Wd} (wa : Ls o a) (la : a.length ≤ 7) : StOk o (stW (Do o) a) := by
  have hB := Do_bnd h0
  have hL := wa.isL h0
  have hS : (stW (Do o) a).length = mx (Do o) a a.length := by unfold stW; rw [List.length_map, List.length_range]
  have hg : ∀ t, t < (stW (Do o) a).length → (stW (Do o) a).getD t [] = csW (ws (Do o) a t) := fun t ht => by
    rw [hS] at ht
    unfold stW
    rw [List.getD_eq_getElem?_getD, List.getElem?_map, List.getElem?_range ht]; rfl
  have hp : ∀ t, List.Perm (csW (ws (Do o) a t)) (ws (Do o) a t) := fun t => csW_perm (ws_isL hL t)
  refine ⟨by rw [hS]; have := mx_le (D := Do o) (log := a) a.length; omega, fun t ht => ?_, fun t ht => ?_, fun t k ht hk0 hk => ?_, fun t m k ht hmk hk => ?_, fun t k ht0 ht hk => ?_⟩
  · rw [hg t ht]
    exact ⟨fun b hb => ws_isL hL t b ((hp t).mem_iff.1 hb), by rw [(hp t).length_eq]; exact ws_len (fun x _ => hB.refl x) hL t⟩
  · rw [hg t ht]
    obtain ⟨b, hb⟩ := ws_some (D := Do o) (log := a) (by rw [← hS]; exact ht)
    intro e
    have := (hp t).mem_iff.2 hb
    rw [e] at this; cases this
  · rw [hg t ht] at hk ⊢
    have h := csW_asc (ws (Do o) a t)
    unfold bytesI at h
    rw [List.pairwise_map] at h
    have := List.pairwise_iff_getElem.1 h (k - 1) k (by omega) hk (by omega)
    rw [List.getD_eq_getElem?_getD, List.getD_eq_getElem?_getD, List.getElem?_eq_getElem (show k - 1 < _ by omega), List.getElem?_eq_getElem hk]
    simp only [Option.getD_some]
    omega
  · rw [hg t ht] at hk ⊢
    have h := List.pairwise_iff_getElem.1 (csW_free hB hL t) m k (by omega) hk hmk
    rw [List.getD_eq_getElem?_getD, List.getD_eq_getElem?_getD, List.getElem?_eq_getElem (show m < _ by omega), List.getElem?_eq_getElem hk]
    exact h
  · rw [hg t ht] at hk ⊢
    rw [hg (t - 1) (by omega)]
    obtain ⟨c, h1, h2⟩ := ws_held (D := Do o) (log := a) (t := t - 1) (b := (csW (ws (Do o) a t)).getD k 0) (by rw [show t - 1 + 1 = t by omega]; exact (hp t).mem_iff.1 (getD_mem hk))
    obtain ⟨j, hj, e⟩ := mem_getD ((hp (t - 1)).mem_iff.2 h1)
    exact ⟨j, hj, by rw [e]; exact h2⟩

theorem held5 {o : Of} (h0 : errO o = 0) (N : Nat) {S : List Wd} (q : Int) (M : Mw) (jd : Wd) (hS : StOk o S) {t : Nat} (ht : t < S.length) {k : Nat} (hk : k < (S.getD t []).length) (ru : Int) (g : List (Int × Int)) (rec : List (Int × Int) → Option Unit) :
    ∀ (n m : Nat) (hd : Bool), (S.getD (t - 1) []).length < n + m → m ≤ (S.getD (t - 1) []).length → (t = 0 → hd = true) → (0 < t → hd = true ∨ ∃ j, m ≤ j ∧ j < (S.getD (t - 1) []).length ∧ Do o ((S.getD (t - 1) []).getD j 0) ((S.getD t []).getD k 0) = true) →
      l5e (some true) B13 B15 B17 B18 B26 B27 B28 B29 B30 true N o (S, q) M jd (t : Int) ((k : Int), ru) g rec n hd (m : Int) = rec g
  | 0, m, hd, h1, h2, _, _ => by omega
  | n + 1, m, hd, h1, h2, h3, h4 => by
    have hlen := hS.len
    rw [l5e]
    by_cases t0 : t = 0
    · subst t0
      rw [decide_eq_false (by omega), cond_false, h3 rfl]; rfl
    · have e1 : w64 ((t : Int) - 1) = ((t - 1 : Nat) : Int) := by rw [w64_eq (by omega) (by omega)]; omega
      rw [decide_eq_true (by omega), cond_true, e1, chk_dec (by simp only; omega), Int.toNat_natCast, Int.toNat_natCast]
      by_cases hm : m < (S.getD (t - 1) []).length
      · have hl6 := (hS.lets (t - 1) (by omega)).2
        rw [decide_eq_true (by simp only; omega), cond_true, w64_succ (by omega)]
        have next : ∀ hd', (hd' = true ∨ ∃ j, m + 1 ≤ j ∧ j < (S.getD (t - 1) []).length ∧ Do o ((S.getD (t - 1) []).getD j 0) ((S.getD t []).getD k 0) = true) → l5e (some true) B13 B15 B17 B18 B26 B27 B28 B29 B30 true N o (S, q) M jd (t : Int) ((k : Int), ru) g rec n hd' ((m + 1 : Nat) : Int) = rec g :=
          fun hd' h => held5 h0 N q M jd hS ht hk ru g rec n (m + 1) hd' (by omega) (by omega) (fun e => absurd e t0) fun _ => h
        cases hd with
        | true => rw [cond_true]; exact next true (.inl rfl)
        | false =>
          rw [cond_false, chk_dec (by simp only; omega), chk_dec (by simp only; omega), chk_dec (by simp only; omega), Int.toNat_natCast, Int.toNat_natCast,
            B30_of h0 ((hS.lets (t - 1) (by omega)).1 _ (getD_mem hm)) ((hS.lets t ht).1 _ (getD_mem hk)), Option.bind_some, Bool.not_not]
          refine next _ ?_
          rcases h4 (by omega) with h | ⟨j, j1, j2, j3⟩
          · cases h
          · by_cases hj : j = m
            · subst hj; exact .inl j3
            · exact .inr ⟨j, by omega, j2, j3⟩
      · rw [decide_eq_false (by simp only; omega), cond_false]
        rcases h4 (by omega) with h | ⟨j, j1, j2, j3⟩
        · rw [h]; rfl
        · omega

theorem free5 {o : Of} (h0 : errO o = 0) (N : Nat) (hN : 10 ≤ N) {S : List Wd} (q : Int) (M : Mw) (jd : Wd) (hS : StOk o S) {t : Nat} (ht : t < S.length) {k : Nat} (hk : k < (S.getD t []).length) (ru : Int) (g : List (Int × Int)) (rec : List (Int × Int) → Option Unit) :
    ∀ (n m : Nat), k < n + m → m ≤ k → l5d (some true) B13 B15 B17 B18 B26 B27 B28 B29 B30 true N o (S, q) M jd (t : Int) ((k : Int), ru) g rec n (m : Int) = rec g
  | 0, m, h1, h2 => by omega
  | n + 1, m, h1, h2 => by
    have hlen := hS.len
    have hl6 := (hS.lets t ht).2
    rw [l5d]
    by_cases hm : m < k
    · rw [decide_eq_true (by simp only; omega), cond_true]
      simp only [Int.toNat_natCast]
      rw [chk_dec (by omega), chk_dec (by omega), B30_of h0 ((hS.lets t ht).1 _ (getD_mem (by omega))) ((hS.lets t ht).1 _ (getD_mem hk)), Option.bind_some, hS.free t m k ht hm hk, Bool.not_false, Bool.not_true, cond_false, w64_succ (by omega)]
      exact free5 h0 N hN q M jd hS ht hk ru g rec n (m + 1) (by omega) (by omega)
    · rw [decide_eq_false (by simp only; omega), cond_false]
      refine held5 h0 N q M jd hS ht hk ru g rec N 0 _ ?_ (Nat.zero_le _) (fun e => by rw [e]; rfl) fun h => .inr ?_
      · have := (hS.lets (t - 1) (by omega)).2
        omega
      · obtain ⟨j, j1, j2⟩ := hS.held t k h ht hk
        exact ⟨j, Nat.zero_le _, j1, j2⟩

theorem step5 {o : Of} (h0 : errO o = 0) (N : Nat) (hN : 10 ≤ N) {S : List Wd} (q : Int) (M : Mw) (jd : Wd) (hj : jd.length ≤ 1000) (hS : StOk o S) {t : Nat} (ht : t < S.length) (rec : Wd → Int → Option Unit) :
    ∀ (rest : Wd) (n k : Nat), rest.length < n → (S.getD t []).drop k = rest → l5c (some true) B13 B15 B17 B18 B26 B27 B28 B29 B30 true N o (S, q) M jd (t : Int) rec n (sitL k rest) = rec (jd ++ S.getD t []) ((t + 1 : Nat) : Int)
  | [], n, k, hn, hd => by
    obtain ⟨n, rfl⟩ : ∃ z, n = z + 1 := ⟨n - 1, by simp only [List.length_nil] at hn; omega⟩
    have hl6 := (hS.lets t ht).2
    have hlen := hS.len
    rw [l5c, sitL]
    simp only [sitK, Int.toNat_natCast]
    rw [beq_eq_false_iff_ne.2 (hS.some' t ht), cond_false, chk_dec (by omega), w64_succ (by omega)]
  | b :: rest, n, k, hn, hd => by
    obtain ⟨n, rfl⟩ : ∃ z, n = z + 1 := ⟨n - 1, by omega⟩
    obtain ⟨hk, _, hd'⟩ := getD_drop' hd
    have hl6 := (hS.lets t ht).2
    simp only [List.length_cons] at hn
    have ih := step5 h0 N hN q M jd hj hS ht rec rest n (k + 1) (by omega) hd'
    rw [l5c, sitL]
    simp only [sitK, Int.toNat_natCast]
    have hgo := fun ru => free5 h0 N hN q M jd hS ht hk ru (sitL (k + 1) rest) (fun y0 => l5c (some true) B13 B15 B17 B18 B26 B27 B28 B29 B30 true N o (S, q) M jd (t : Int) rec n y0) N 0 (by omega) (Nat.zero_le _)
    by_cases k0 : 0 < k
    · have e1 : w64 ((k : Int) - 1) = ((k - 1 : Nat) : Int) := by rw [w64_eq (by omega) (by omega)]; omega
      have hup := hS.up t k ht k0 hk
      rw [decide_eq_true (by omega), cond_true, e1, chk_dec (by omega), chk_dec (by omega), Int.toNat_natCast, decide_eq_false (by omega), cond_false]
      exact (hgo _).trans ih
    · rw [decide_eq_false (by omega), cond_false]
      exact (hgo _).trans ih

theorem KB5 : FnOk Tryd.prog 5 (F5 fun d p by' => if u8z d.1 ∧ u8z d.2.1 ∧ u8l p ∧ u8l by' then some true else none) := ok5 (some true) B13 B15 B17 B18 B26 B27 B28 B29 B30 K11t kb13 kb15 kb17 kb18 kb26 kb27 kb28 kb29 kb30 _ fun d p by' r h => by
  split at h
  · rename_i hq
    obtain ⟨d1, d2, hp, hby⟩ := hq
    obtain rfl := Option.some.inj h
    have hB26 := B26_of d1 d2
    generalize d.1.toNat = K at hB26
    generalize d.2.1.toNat = F at hB26
    have h0 := (off_ok (K := K) (F := F)).1
    have hB := Do_bnd h0
    have la := pst_len (kOf K) p 7
    have wa := Ls_pst K F p 7
    have e1 := B27_of K F hp (m := 7) (by omega)
    generalize pst (kOf K) p 7 = a at la wa e1
    generalize offN K F = o at h0 hB wa e1 hB26
    obtain ⟨M, hM, hnd, hmem⟩ := B29_of h0 (s := a) la wa
    have hE : Eqv (Do o) a (mix (Do o) a by') := mix_eqv hB by' a
    have e2 := B28_of h0 wa (by omega) hby
    generalize mix (Do o) a by' = b at hE e2
    have wb : Ls o b := wa.eqv h0 hE
    have lb : b.length ≤ 7 := by rw [← hE.length hB]; exact la
    have en : nfo o b = nfo o a := nfo_same h0 wb wa hE.symm
    have es : stW (Do o) b = stW (Do o) a := stW_eqv hB hE.symm
    have hS := stok h0 wa la
    have hSe : Eqv (Do o) (stW (Do o) a).flatten a := stW_eqv_log hB (wa.isL h0)
    have hSs : stW (Do o) (stW (Do o) a).flatten = stW (Do o) a := stW_eqv hB hSe
    have b15 : ∀ l : Wd, l.length ≤ 14 → Ls o l → B15 o l = some (stW (Do o) l, 0) := fun l ll wl => by
      unfold B15
      rw [if_pos (errA_ok h0 fun l' hl' => by
        obtain rfl := List.mem_singleton.1 hl'
        exact ⟨ll, wl⟩)]
    have b17 : B17 (stW (Do o) a) (stW (Do o) a) = some true := by
      unfold B17; rw [if_pos ⟨rfl, by have := hS.len; omega⟩]
    have hcnt : (lin (Do o) abc b.length b).length = M.length := by
      have hk : (keys M).length = M.length := by unfold keys; rw [List.length_map]
      rw [← hk]
      refine ((List.perm_ext_iff_of_nodup (nodup_lin abc (by decide) _ _) hnd).2 fun t => ?_).length_eq
      rw [mem_lin hB abc _ _ _ rfl (wb.abc h0), hmem]
      exact ⟨fun h => h.trans hE.symm, fun h => h.trans hE⟩
    have hN : ∃ N : Nat, N = M.length + 20 := ⟨_, rfl⟩
    obtain ⟨N, hN⟩ := hN
    refine ⟨N, ?_⟩
    unfold m5
    rw [hB26, Option.bind_some, show ((7 : Int)) = ((7 : Nat) : Int) from rfl, e1, Option.bind_some, e2, Option.bind_some, B13_of h0 (by omega) wa, Option.bind_some, B13_of h0 (by omega) wb, Option.bind_some, b15 a (by omega) wa, Option.bind_some, b15 b (by omega) wb, Option.bind_some, B18_of h0 (by omega) wb, Option.bind_some, hM, Option.bind_some, en, es, hcnt]
    have hx : nfo o a ∈ keys M := (hmem _).2 (nfo_eqv h0 wa)
    have hx' : (mget (kt := .str) (vt := .int .i64) M (nfo o a)).isSome = true := (getW_some (nfo o a) M).trans (decide_eq_true hx)
    simp only [bne_self_eq_false, cond_false, beq_self_eq_true, Bool.not_true, b17, Option.bind_some, hx']
    have last : ∀ (n t : Nat) (jd : Wd), (stW (Do o) a).length < n + t → t ≤ (stW (Do o) a).length → jd = ((stW (Do o) a).take t).flatten → l5b (some true) B13 B15 B17 B18 B26 B27 B28 B29 B30 true N o (stW (Do o) a, 0) M n jd (t : Int) = some () := by
      intro n
      induction n with
      | zero => intro t jd h1 h2; omega
      | succ n ih =>
        intro t jd h1 h2 hj
        rw [l5b]
        by_cases ht : t < (stW (Do o) a).length
        · obtain ⟨hl1, hl2⟩ := hS.lets t ht
          have hasc : Go.Proofs.YtmpbbkldopfkpaaDoor.asc ((stW (Do o) a).getD t []) = true := List.all_eq_true.2 fun b hb => decide_eq_true (by have := hl1 b hb; unfold isL at this; omega)
          have hjl : jd.length ≤ 1000 := by
            have hs : (((stW (Do o) a).take t).flatten ++ ((stW (Do o) a).drop t).flatten).length = (stW (Do o) a).flatten.length := by rw [← List.flatten_append, List.take_append_drop]
            rw [List.length_append, ← hj] at hs
            have := hSe.length hB
            omega
          rw [decide_eq_true (by simp only; omega), cond_true]
          simp only [Int.toNat_natCast]
          rw [chk_dec (by omega), hasc, chk_true, step5 h0 N (by omega) 0 M jd hjl hS ht _ ((stW (Do o) a).getD t []) N 0 (by omega) rfl]
          refine ih (t + 1) _ (by omega) (by omega) ?_
          rw [hj, List.take_add_one, List.flatten_append, List.getD_eq_getElem?_getD, List.getElem?_eq_getElem ht]
          simp
        · have hjd : jd = (stW (Do o) a).flatten := by rw [hj, List.take_of_length_le (by omega)]
          have ljd := hSe.length hB
          have wjd : Ls o (stW (Do o) a).flatten := wa.back h0 hSe
          have hin : (mget (kt := .str) (vt := .int .i64) M (stW (Do o) a).flatten).isSome = true := (getW_some _ M).trans (decide_eq_true ((hmem _).2 hSe))
          rw [decide_eq_false (by simp only; omega), cond_false, hjd, b15 _ (by omega) wjd, Option.bind_some, hin, cond_true, hSs]
          simp only [beq_self_eq_true, cond_true, b17, Option.bind_some]
          rfl
    have main : ∀ (n : Nat) (l : Mw), l.length < n → (∀ e ∈ l, Eqv (Do o) e.1 a) → l5a (some true) B13 B15 B17 B18 B26 B27 B28 B29 B30 true N o (nfo o a, 0) (stW (Do o) a, 0) M n l = some () := by
      intro n
      induction n with
      | zero => intro l h; omega
      | succ n ih =>
        intro l hl hEl
        rw [l5a]
        refine eachK_of l (fun hn => ?_) fun u e v he => ?_
        · exact last N 0 [] (by have := hS.len; omega) (Nat.zero_le _) rfl
        · have hee := hEl e (by rw [he]; simp)
          have hle : lexLe (nfo o a) e.1 := nf_least hB _ a _ rfl (wa.abc h0) hee
          show cond (Op.bytesLess e.1 (nfo o a)) _ _ = _
          rw [bytesLess_le hle, cond_false]
          refine ih _ ?_ fun x hx => hEl x (by
            rw [he]
            rcases List.mem_append.1 hx with h | h <;> simp [h])
          rw [he] at hl
          simp only [List.length_append, List.length_cons] at hl ⊢
          omega
    exact main N M (by omega) fun e he => (hmem e.1).1 (List.mem_map.2 ⟨e, he, rfl⟩)
  · cases h

theorem K (y0 : Int × Int × Unit) (y1 : List Int) (y2 : List Int) (_ : DT.wf (.pair (.int .u8) (.pair (.int .u8) .unit)) y0) (_ : DT.wf (.sl (.int .u8)) y1) (_ : DT.wf (.sl (.int .u8)) y2) : FnOk Tryd.prog 5 (F5 (fun d p b => if u8z d.1 ∧ u8z d.2.1 ∧ u8l p ∧ u8l b then some true else none)) := KB5

set_option maxRecDepth 100000 in
theorem walk (w : World) (vs : List Value) (hgl : GlbOk w (fun b => b < w.heap.size)) (h : ArgsOk w [.pair (.int .u8) (.pair (.int .u8) .unit), .sl (.int .u8), .sl (.int .u8)] vs) : Calls Tryd.prog 5 vs.toArray w fun e w' => e = .returned (.bool true) ∧ Below w.heap.size w w' := by
  obtain ⟨v0, vs0, y0, rfl, w0, h0, k0⟩ := ArgsOk.cons h
  obtain ⟨v1, vs1, y1, rfl, w1, h1, k1⟩ := ArgsOk.cons k0
  obtain ⟨v2, vs2, y2, rfl, w2, h2, k2⟩ := ArgsOk.cons k1
  obtain rfl := ArgsOk.nil k2
  exact walkAll (K y0 y1 y2 w0 w1 w2) (xs := [.dv (.pair (.int .u8) (.pair (.int .u8) .unit)) y0, .dv (.sl (.int .u8)) y1, .dv (.sl (.int .u8)) y2]) (r := true) (if_pos ⟨(wfDq w0).1, (wfDq w0).2, wfLs w1, wfLs w2⟩) rfl (HoldsAll.cons h0 (HoldsAll.cons h1 (HoldsAll.cons h2 HoldsAll.nil))) hgl

set_option maxRecDepth 100000 in
theorem lifted (os : Os) (started : os.Started) (H : Type) (enc : TypeId × Value → H) :
    ReturnsInHanded {} Tryd.checked os 5 .any (fun w args => (Rows.lettersFirstSpec.pre enc Tryd.prog Tryd.f5 [] false w args ∧ laidMetH Tryd.prog laidL w) ∧ sizedMet enc Tryd.prog Tryd.f5 (OpenSpec.ofChange Rows.lettersFirstSpec) false w args) (Rows.lettersFirstSpec.post enc Tryd.prog Tryd.f5 false true false false) :=
  lawShellT (fn := Tryd.f5) (s := Rows.lettersFirstSpec) (tb := 4) [.pair (.int .u8) (.pair (.int .u8) .unit), .sl (.int .u8), .sl (.int .u8)] Tryd.func5 (by kernel_rfl) (by kernel_rfl) (by kernel_rfl) Tryd.underlying4 (by kernel_rfl) os started H enc []
    (fun ds hl => by
      match ds, hl with
      | [d0, d1, d2], _ => rfl)
    (ChangeSpec.witness_shaped (enc := enc) (C := Tryd.checked) (os := os) (X := fun w _ => laidMetH Tryd.prog laidL w) false (laidWorld os) #[.agg #[.int .u8 0, .int .u8 0], .slice none 0 0, .slice none 0 0] 8 rfl (World.shaped_of_RefB (by kernel_rfl) (by kernel_rfl)) (by kernel_rfl) (by kernel_rfl) (by kernel_rfl) (laidWorld_met os _)) walk

theorem over : Rows.LettersFirstSaid :=
  OpenClaim.holds_of_wide 5 Tryd.f5 rfl rfl rfl rfl rfl rfl rfl ⟨rfl, rfl, rfl, rfl, rfl⟩ rfl rfl rfl rfl rfl (by kernel_rfl) Tryd.func5 (by kernel_rfl)
    (of_decide_eq_true (by kernel_rfl)) (by unfold Func.isWrapper; first | (rw [if_pos (by decide +kernel)]; kernel_rfl) | (rw [if_neg (by decide +kernel)]; exact ⟨rfl, rfl⟩))
    (fun os started H enc _ => lifted os started H enc)

set_option maxRecDepth 100000 in
/-- THE STATEMENT. -/
theorem proved : Rows.LettersFirstCardSaid :=
  Claim7.holds_tied_plain_at .later [] [.data, .data, .data, .pinned] true (true, "319dfa66b581b5b6d08f6f2fb949c4fc49c9104c5b2ccc686a739ed36fa85254") false
    over (fun _ h => by cases h) (by kernel_rfl) (fun _ h => by cases h) lettersFirst_row_tie rfl ⟨rfl, rfl⟩ mainIs0 rfl
    (fun f fn hf hfn => by
      obtain rfl : f = 5 := Option.some.inj ((show Tryd.prog.funcNamed "tusche/tuschelaw10.LettersFirst" = some 5 by kernel_rfl).symm.trans hf) |>.symm
      obtain rfl : fn = Tryd.f5 := (Option.some.inj (Tryd.func5.symm.trans hfn)).symm
      exact ⟨by kernel_rfl, fun j t ht => by
        rw [Tryd.params5] at ht
        have hall : (#[48, 50, 49] : Array TypeId).toList.all (fun t => !Tryd.pinned.checked.prog.wantsStandIn t) = true := by kernel_rfl
        have := List.all_eq_true.1 hall t (Array.mem_toList_iff.2 (Array.mem_of_getElem? ht))
        simpa using this⟩)
    (by kernel_rfl)

end Go.Proofs.YtmpbbkldopfkpaaDoor.lettersFirst
