/-
 All logs that mean the same: exchange by exchange.
-/
import Derived.Test.YtmpbbkldopfkpaaDoorL12
import Derived.Test.YtmpbbkldopfkpaaDoorQM29
namespace Go.Proofs.YtmpbbkldopfkpaaDoor
open Go.RowKit
set_option linter.unusedVariables false

theorem reach {D : UInt8 → UInt8 → Bool} (hB : Bnd D) : ∀ (t s : Wd) (K : Wd → Prop), (∀ u v x y, D x y = false → K (u ++ x :: y :: v) → K (u ++ y :: x :: v)) → Eqv D t s → K s → K t
 | [], s, K, hc, h, hs => by rw [eqv_nil hB h] at hs; exact hs
 | x :: t, s, K, hc, h, hs => by
  obtain ⟨s', h1, h2⟩ := h.tk hB
  obtain ⟨u, v, rfl, rfl, h3⟩ := tk_some h1
  have move : ∀ (u w : Wd), (∀ z ∈ u, z ≠ x ∧ D z x = false) → K (u.reverse ++ x :: w) → K (x :: (u.reverse ++ w)) := by
   intro u
   induction u with
   | nil => intro w _ h; exact h
   | cons z u ih =>
    intro w hu h
    rw [List.reverse_cons, List.append_assoc] at h ⊢
    have := hc u.reverse w z x (hu z (by simp)).2 h
    exact ih (z :: w) (fun y hy => hu y (by simp [hy])) this
  have hx : K (x :: (u ++ v)) := by
   have := move u.reverse v (fun z hz => h3 z (List.mem_reverse.1 hz)) (by rw [List.reverse_reverse]; exact hs)
   rwa [List.reverse_reverse] at this
  exact reach hB t (u ++ v) (fun r => K (x :: r)) (fun a b p q hpq hk => hc (x :: a) b p q hpq hk) h2 hx
abbrev Mw := List (Wd × Int)
abbrev putW (M : Mw) (k : Wd) (v : Int) : Mw := mput (kt := .str) (vt := .int .i64) M k v
abbrev getW (M : Mw) (k : Wd) : Option Int := mget (kt := .str) (vt := .int .i64) M k
def keys (M : Mw) : List Wd := M.map (·.1)
theorem getW_some (k : Wd) : ∀ M : Mw, (getW M k).isSome = decide (k ∈ keys M)
 | [] => rfl
 | p :: M => by
  show (cond (k == p.1) (some p.2) (getW M k)).isSome = _
  by_cases h : k = p.1
  ·rw [beq_iff_eq.2 h, cond_true, decide_eq_true (by rw [h]; simp [keys])]; rfl
  ·rw [beq_eq_false_iff_ne.2 h, cond_false, getW_some k M]
   exact decide_eq_decide.2 (by simp [keys, h])
theorem putW_keys (k : Wd) (v : Int) : ∀ M : Mw, k ∉ keys M → keys (putW M k v) = keys M ++ [k]
 | [], _ => rfl
 | p :: M, h => by
  have h1 : k ≠ p.1 := fun e => h (by simp [keys, e])
  show keys (cond (k == p.1) ((k, v) :: M) (p :: putW M k v)) = _
  rw [beq_eq_false_iff_ne.2 h1, cond_false]
  show p.1 :: keys (putW M k v) = _
  rw [putW_keys k v M fun hm => h (List.mem_cons_of_mem _ hm)]; rfl
def Nbr (D : UInt8 → UInt8 → Bool) (x : Wd) (i : Nat) (K : List Wd) : Prop := ∀ j, j < i → j + 1 < x.length → D (x.getD j 0) (x.getD (j + 1) 0) = false → swp x j ∈ K
structure Bfs (D : UInt8 → UInt8 → Bool) (s : Wd) (todo : List Wd) (M : Mw) : Prop where
 nodup : (keys M).Nodup
 eqv : ∀ t ∈ keys M, Eqv D t s
 sub : ∀ t ∈ todo, t ∈ keys M
 tnd : todo.Nodup
 start : s ∈ keys M
 closed : ∀ t ∈ keys M, t ∉ todo → Nbr D t t.length (keys M)
theorem Bfs.all {D : UInt8 → UInt8 → Bool} (hB : Bnd D) {s : Wd} {M : Mw} (h : Bfs D s [] M) (t : Wd) : t ∈ keys M ↔ Eqv D t s := by
 refine ⟨h.eqv t, fun ht => ?_⟩
 refine reach hB t s (fun r => r ∈ keys M) (fun u v x y hxy hk => ?_) ht h.start
 have := h.closed _ hk (by simp) u.length (by simp) (by simp) (by simpa using hxy)
 rwa [swp_eq rfl] at this
theorem Bfs.count {D : UInt8 → UInt8 → Bool} (hB : Bnd D) {s : Wd} (hL : ∀ b ∈ s, b ∈ abc) {todo : List Wd} {M : Mw} (h : Bfs D s todo M) : (keys M).length ≤ (lin D abc s.length s).length :=
 List.Nodup.length_le_of_subset h.nodup fun t ht => (mem_lin hB abc _ _ _ rfl hL).2 (h.eqv t ht)
theorem lin_le {D : UInt8 → UInt8 → Bool} (hB : Bnd D) {s : Wd} (hs : s.length ≤ 7) (hL : ∀ b ∈ s, isL b) : (lin D abc s.length s).length ≤ 105413504 := by
 rw [← Fp_cnt (fun x _ => hB.refl x) hL]
 refine Nat.le_trans (Fp_le D s s.length _ (by rw [List.length_range]; omega)) ?_
 exact Nat.le_trans (Nat.pow_le_pow_right (by decide) hs) (by decide)
open Classical in
noncomputable def B29 : Of → Wd → Option Mw := fun o s => if errO o = 0 ∧ (∀ b ∈ s, isL b) ∧ s.length ≤ 7 then (if h : ∃ M N, m29 B30 B57 N o s = some M ∧ Bfs (Do o) s [] M then some (Classical.choose h) else none) else none
theorem inner29 {o : Of} (h0 : errO o = 0) {s : Wd} (hs : s.length ≤ 7) (hL : ∀ b ∈ s, isL b) (N : Nat) (hN : 10 ≤ N) (rec : List Wd → Mw → Option Mw) {x : Wd} {todo : List Wd} {M : Mw} (h : Bfs (Do o) s (x :: todo) M) (Q : Option Mw → Prop)
  (hrec : ∀ todo' M', Bfs (Do o) s todo' M' → todo'.length + (keys M).length = todo.length + (keys M').length → Q (rec todo' M')) :
  ∀ (n i : Nat) (td : List Wd) (M' : Mw), i + n ≥ 10 → i ≤ x.length →
   Bfs (Do o) s (x :: td) M' → x ∈ keys M' → Nbr (Do o) x i (keys M') → td.length + (keys M).length = todo.length + (keys M').length →
   Q (l29b B30 B57 N o (x :: todo) rec n (i : Int) td M')
 | 0, i, td, M', hi, hx, hb, hxm, _, _ => by
  have := (hb.eqv x hxm).length (Do_bnd h0)
  omega
 | n + 1, i, td, M', hi, hx, hb, hxm, hnb, hcnt => by
  have hB := Do_bnd h0
  have hlen : x.length = s.length := (hb.eqv x hxm).length hB
  have hLx : ∀ b ∈ x, isL b := ((hb.eqv x hxm).symm).isL hB hL
  have hLs : ∀ b ∈ s, b ∈ abc := fun b hb' => isL_abc (hL b hb')
  rw [l29b]
  simp only [List.getD_cons_zero]
  rw [w64_succ (by omega)]
  by_cases hi1 : i + 1 < x.length
  ·have e57 : B57 x (i : Int) = some (swp x i) := by unfold B57; rw [if_pos ⟨by omega, by omega, by omega⟩, Int.toNat_natCast]
   rw [decide_eq_true (by omega), cond_true, e57, Option.bind_some, chk_dec (by omega), chk_dec (by omega), Int.toNat_natCast, Int.toNat_natCast, B30_of h0 (hLx _ (getD_mem (by omega))) (hLx _ (getD_mem hi1)), Option.bind_some]
   have next : ∀ td' M2, Bfs (Do o) s (x :: td') M2 → x ∈ keys M2 → (∀ t ∈ keys M', t ∈ keys M2) → (Do o (x.getD i 0) (x.getD (i + 1) 0) = false → swp x i ∈ keys M2) → td'.length + (keys M).length = todo.length + (keys M2).length →
     Q (l29b B30 B57 N o (x :: todo) rec n ((i + 1 : Nat) : Int) td' M2) := fun td' M2 b1 b2 b3 b4 b5 =>
    inner29 h0 hs hL N hN rec h Q hrec n (i + 1) td' M2 (by omega) (by omega) b1 b2 (fun j hj hj1 hD => by
     by_cases e : j = i
     ·subst e; exact b4 hD
     ·exact b3 _ (hnb j (by omega) hj1 hD)) b5
   cases hD : Do o (x.getD i 0) (x.getD (i + 1) 0) with
   | true =>
    rw [Bool.not_true, cond_false]
    exact next td M' hb hxm (fun t ht => ht) (fun e => by rw [hD] at e; cases e) hcnt
   | false =>
    have hne : x.getD i 0 ≠ x.getD (i + 1) 0 := fun e => by rw [e, hB.refl] at hD; cases hD
    have hne' : ((((x.getD i 0).toNat : Nat) : Int) != (((x.getD (i + 1) 0).toNat : Nat) : Int)) = true := by
     rw [bne_iff_ne]
     exact fun e => hne (UInt8.toNat_inj.1 (by omega))
    rw [Bool.not_false, cond_true, chk_dec (by omega), chk_dec (by omega), hne', cond_true]
    show Q (cond (!(getW M' (swp x i)).isSome) _ _)
    rw [getW_some]
    by_cases hin : swp x i ∈ keys M'
    ·rw [decide_eq_true hin, Bool.not_true, cond_false]
     exact next td M' hb hxm (fun t ht => ht) (fun _ => hin) hcnt
    ·rw [decide_eq_false hin, Bool.not_false, cond_true]
     have hcl := hb.count hB hLs
     have hll := lin_le hB hs hL
     have htd : td.length ≤ 105413504 := by
      have h1 := List.Nodup.length_le_of_subset hb.tnd (l₂ := keys M') fun t ht => hb.sub t ht
      simp only [List.length_cons] at h1; omega
     have hk2 := putW_keys (swp x i) (w64 ((getW M' x).getD 0 + 1)) M' hin
     have hE : Eqv (Do o) (swp x i) s := (swp_at hB hi1 hD).symm.trans (hb.eqv x hxm)
     rw [chk_of (small_of (by omega) (by decide))]
     refine next (td ++ [swp x i]) (putW M' (swp x i) (w64 ((getW M' x).getD 0 + 1))) ⟨?_, fun t ht => ?_, fun t ht => ?_, ?_, ?_, fun t ht htd' => ?_⟩ ?_ (fun t ht => ?_) (fun _ => ?_) ?_
     ·rw [hk2, List.nodup_append]
      exact ⟨hb.nodup, by simp, fun a ha b hb' e => hin (by rw [List.mem_singleton.1 hb'] at e; exact e ▸ ha)⟩
     ·rw [hk2] at ht
      rcases List.mem_append.1 ht with ht | ht
      ·exact hb.eqv t ht
      ·rw [List.mem_singleton.1 ht]; exact hE
     ·rw [hk2]
      rw [← List.cons_append] at ht
      rcases List.mem_append.1 ht with ht | ht
      ·exact List.mem_append.2 (.inl (hb.sub t ht))
      ·exact List.mem_append.2 (.inr ht)
     ·rw [← List.cons_append, List.nodup_append]
      exact ⟨hb.tnd, by simp, fun a ha b hb' e => hin (by rw [List.mem_singleton.1 hb'] at e; exact e ▸ hb.sub a ha)⟩
     ·rw [hk2]; exact List.mem_append.2 (.inl hb.start)
     ·rw [hk2] at ht ⊢
      rw [← List.cons_append, List.mem_append, not_or] at htd'
      rcases List.mem_append.1 ht with ht | ht
      ·intro j hj hj1 hDj
       exact List.mem_append.2 (.inl (hb.closed t ht htd'.1 j hj hj1 hDj))
      ·exact absurd ht htd'.2
     ·rw [hk2]; exact List.mem_append.2 (.inl hxm)
     ·rw [hk2]; exact List.mem_append.2 (.inl ht)
     ·rw [hk2]; exact List.mem_append.2 (.inr (by simp))
     ·rw [hk2, List.length_append, List.length_append]; simp only [List.length_cons, List.length_nil]; omega
  ·rw [decide_eq_false (by omega), cond_false]
   refine hrec td M' ⟨hb.nodup, hb.eqv, fun t ht => hb.sub t (by simp [ht]), (List.nodup_cons.1 hb.tnd).2, hb.start, fun t ht htd => ?_⟩ hcnt
   by_cases e : t = x
   ·subst e
    intro j hj hj1 hD
    exact hnb j (by omega) hj1 hD
   ·exact hb.closed t ht (by simp [e, htd])
theorem outer29 {o : Of} (h0 : errO o = 0) {s : Wd} (hs : s.length ≤ 7) (hL : ∀ b ∈ s, isL b) (N : Nat) (hN : 10 ≤ N) :
  ∀ (n : Nat) (todo : List Wd) (M : Mw), todo.length + 105413504 < n + (keys M).length → Bfs (Do o) s todo M → ∃ M', l29a B30 B57 N o n todo M = some M' ∧ Bfs (Do o) s [] M'
 | 0, todo, M, hn, hb => by
  have h1 := hb.count (Do_bnd h0) fun b hb' => isL_abc (hL b hb')
  have h2 := lin_le (Do_bnd h0) hs hL
  omega
 | n + 1, todo, M, hn, hb => by
  rw [l29a]
  cases todo with
  | nil => exact ⟨M, by rw [decide_eq_false (by simp), cond_false], hb⟩
  | cons x todo =>
   have hx := hb.sub x (by simp)
   rw [decide_eq_true (by simp only [List.length_cons]; omega), cond_true, chk_dec (by simp only [List.length_cons]; omega), chk_dec (by simp only [List.length_cons]; omega)]
   refine inner29 h0 hs hL N hN (fun y0 y1 => l29a B30 B57 N o n y0 y1) hb (fun r => ∃ M', r = some M' ∧ Bfs (Do o) s [] M') (fun td M' b1 b2 => outer29 h0 hs hL N hN n td M' ?_ b1) N 0 todo M (by omega) (by omega) hb hx (fun j hj => by omega) rfl
   simp only [List.length_cons] at hn
   omega
theorem all29 {o : Of} (h0 : errO o = 0) {s : Wd} (hs : s.length ≤ 7) (hL : ∀ b ∈ s, isL b) : ∃ M N, m29 B30 B57 N o s = some M ∧ Bfs (Do o) s [] M := by
 obtain ⟨M, h1, h2⟩ := outer29 h0 hs hL 105413514 (by omega) 105413514 [s] [(s, 0)] (by simp [keys]) ⟨by simp [keys], fun t ht => by
  have : t = s := by simpa [keys] using ht
  rw [this]; exact Eqv.refl s, fun t ht => by simpa [keys] using ht, by simp, by simp [keys], fun t ht htd => absurd ht (by simpa [keys] using htd)⟩
 exact ⟨M, 105413514, h1, h2⟩
theorem kb29 : FnOk Tryd.prog 29 (F29 B29) := ok29 B30 B57 kb30 kb57 B29 fun o s r h => by
 unfold B29 at h
 split at h
 ·split at h
  ·rename_i hq
   obtain ⟨N, h1, _⟩ := Classical.choose_spec hq
   obtain rfl := Option.some.inj h
   exact ⟨N, h1⟩
  ·cases h
 ·cases h
theorem B29_of {o : Of} (h0 : errO o = 0) {s : Wd} (hs : s.length ≤ 7) (hw : Ls o s) : ∃ M, B29 o s = some M ∧ (keys M).Nodup ∧ ∀ t, t ∈ keys M ↔ Eqv (Do o) t s := by
 have hL := hw.isL h0
 have hq := all29 h0 hs hL
 obtain ⟨N, _, h2⟩ := Classical.choose_spec hq
 refine ⟨Classical.choose hq, ?_, h2.nodup, h2.all (Do_bnd h0)⟩
 unfold B29
 rw [if_pos ⟨h0, hL, hs⟩, dif_pos hq]
theorem nf_eqv {D : UInt8 → UInt8 → Bool} (hB : Bnd D) : ∀ (n : Nat) (l : Wd), l.length = n → (∀ b ∈ l, b ∈ abc) → Eqv D (nf D abc n l) l
 | 0, l, h, _ => by rw [List.eq_nil_of_length_eq_zero h]; exact Eqv.refl _
 | n + 1, [], h, _ => by simp at h
 | n + 1, b :: r, h, hL => by
  obtain ⟨x, l', hp⟩ := pick_any (D := D) (l := r) (hL b (by simp))
  obtain ⟨_, ht⟩ := pick_some hp
  have hl := tk_len ht
  simp only [nf, hp]
  exact ((nf_eqv hB n l' (by omega) fun z hz => hL z ((tk_mem ht).2 z hz)).cons x).trans (tk_eqv hB ht)
theorem nfo_eqv {o : Of} (h0 : errO o = 0) {l : Wd} (hw : Ls o l) : Eqv (Do o) (nfo o l) l := nf_eqv (Do_bnd h0) _ _ rfl (hw.abc h0)
theorem B22_of {o : Of} (h0 : errO o = 0) {a b : Wd} (la : a.length ≤ 14) (lb : b.length ≤ 14) (wa : Ls o a) (wb : Ls o b) : B22 o a b = some (match rst (Do o) a b with
  | some r => (nfo o r, 0)
  | none => ([], 14)) := by
 unfold B22
 rw [if_pos (errA_ok h0 fun l hl => by
  simp only [List.mem_cons, List.not_mem_nil, or_false] at hl
  rcases hl with rfl | rfl
  ·exact ⟨la, wa⟩
  ·exact ⟨lb, wb⟩)]
 rfl
theorem Ls.append {o : Of} {a b : Wd} (ha : Ls o a) (hb : Ls o b) : Ls o (a ++ b) := fun x hx => by
 rcases List.mem_append.1 hx with h | h
 ·exact ha x h
 ·exact hb x h
theorem Ls.back {o : Of} (h0 : errO o = 0) {a b : Wd} (hb : Ls o b) (h : Eqv (Do o) a b) : Ls o a := fun x hx => hb x ((h.mem (Do_bnd h0)).1 hx)
end Go.Proofs.YtmpbbkldopfkpaaDoor
