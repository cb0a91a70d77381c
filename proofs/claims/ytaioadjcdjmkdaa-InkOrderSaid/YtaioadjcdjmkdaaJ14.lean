/-
  What the laws without the reference need.
-/
import Derived.Test.YtaioadjcdjmkdaaJ9
import Derived.Test.YtaioadjcdjmkdaaJ13
import Derived.Test.YtaioadjcdjmkdaaQM50c
namespace Go.Proofs.Ytaioadjcdjmkdaa
open Go.RowKit
set_option linter.unusedVariables false

/-! ### which lists are orders -/
def ap : Nat → List Int → List (List Int)
  | 0, _ => [[]]
  | n + 1, M => (List.range M.length).flatMap fun t => (ap n (wo M t)).map ([M.getD t 0] ++ ·)
theorem wo_perm {M : List Int} {t : Nat} (h : t < M.length) : (M.getD t 0 :: wo M t).Perm M := by
  have e := split_at h
  conv => rhs; rw [e]
  exact List.perm_middle.symm
theorem pm_sound : ∀ (n : Nat) (M q : List Int), M.length = n → q ∈ pm n M → q.Perm M
  | 0, M, q, hl, hq => by
    obtain rfl := List.eq_nil_of_length_eq_zero hl
    simp [pm] at hq; subst hq; exact .refl _
  | n + 1, M, q, hl, hq => by
    simp only [pm, List.mem_flatMap, List.mem_range] at hq
    obtain ⟨t, ht, hq⟩ := hq
    cases e : isNew M t with
    | false => rw [e] at hq; cases hq
    | true =>
      rw [e, cond_true, List.mem_map] at hq
      obtain ⟨q', hq', rfl⟩ := hq
      have := pm_sound n (wo M t) q' (by have := wo_len ht; omega) hq'
      exact (this.cons _).trans (wo_perm ht)
theorem ap_sound : ∀ (n : Nat) (M q : List Int), M.length = n → q ∈ ap n M → q.Perm M
  | 0, M, q, hl, hq => by
    obtain rfl := List.eq_nil_of_length_eq_zero hl
    simp [ap] at hq; subst hq; exact .refl _
  | n + 1, M, q, hl, hq => by
    simp only [ap, List.mem_flatMap, List.mem_range, List.mem_map] at hq
    obtain ⟨t, ht, q', hq', rfl⟩ := hq
    have := ap_sound n (wo M t) q' (by have := wo_len ht; omega) hq'
    exact (this.cons _).trans (wo_perm ht)
theorem first_at {x : Int} : ∀ {M : List Int}, x ∈ M → ∃ t, t < M.length ∧ M.getD t 0 = x ∧ ∀ j, j < t → M.getD j 0 ≠ x
  | y :: M, h => by
    by_cases e : y = x
    · exact ⟨0, by simp, e, fun j hj => by omega⟩
    · obtain ⟨t, h1, h2, h3⟩ := first_at ((List.mem_cons.1 h).resolve_left fun h => e h.symm)
      refine ⟨t + 1, by simp; omega, h2, fun j hj => ?_⟩
      cases j with
      | zero => exact e
      | succ j => exact h3 j (by omega)
theorem perm_all : ∀ (n : Nat) (M q : List Int), M.length = n → q.Perm M → q ∈ pm n M ∧ q ∈ ap n M
  | 0, M, q, hl, hq => by
    obtain rfl := List.eq_nil_of_length_eq_zero hl
    obtain rfl := hq.eq_nil
    simp [pm, ap]
  | n + 1, M, q, hl, hq => by
    cases q with
    | nil => have := hq.length_eq; simp at this; omega
    | cons x q =>
      obtain ⟨t, h1, h2, h3⟩ := first_at (hq.mem_iff.1 (List.mem_cons_self ..))
      have hp : q.Perm (wo M t) := by
        have := hq.trans (wo_perm h1).symm
        rw [h2] at this
        exact this.cons_inv
      obtain ⟨a, b⟩ := perm_all n (wo M t) q (by have := wo_len h1; omega) hp
      have hn : isNew M t = true := by
        simp only [isNew, Bool.or_eq_true, decide_eq_true_eq, bne_iff_ne]
        by_cases e : t = 0
        · exact .inl e
        · right; rw [h2]; exact h3 (t - 1) (by omega)
      constructor
      · simp only [pm, List.mem_flatMap, List.mem_range]
        exact ⟨t, h1, by rw [hn, cond_true, List.mem_map]; exact ⟨q, a, by rw [h2]; rfl⟩⟩
      · simp only [ap, List.mem_flatMap, List.mem_range, List.mem_map]
        exact ⟨t, h1, q, b, by rw [h2]; rfl⟩

/-! ### the best one -/
theorem lx_pre {x y : Int} (h : x < y) {u v : List Int} : ∀ {p : List Int}, lx (p ++ x :: u) (p ++ y :: v)
  | [] => .inl h
  | a :: p => .inr ⟨rfl, lx_pre h⟩
theorem NX.lx {o o' : List Int} (h : NX o o') : lx o o' := by
  obtain ⟨pre, A, B, x, y, rfl, _, _, h4, _, rfl⟩ := h
  exact lx_pre h4
theorem Lk.asc : ∀ {o : List Int} {T : List (List Int)} {z : List Int}, Lk (o :: T) z → ∀ q ∈ T, Go.Proofs.Ytaioadjcdjmkdaa.lx o q
  | o, [], _, _, q, hq => by cases hq
  | o, o' :: T, z, h, q, hq => by
    rcases List.mem_cons.1 hq with rfl | hq
    · exact h.1.lx
    · exact lx_trans h.1.lx (Lk.asc h.2 q hq)
/-- Of a set of lists the one that counts most, and of those the smallest. -/
def Best (f : List Int → Nat) (X : List Int → Prop) (m : Int) (b : List Int) : Prop := X b ∧ (f b : Int) = m ∧ ∀ x, X x → (f x : Int) ≤ m ∧ ((f x : Int) = m → b = x ∨ lx b x)
theorem Best.eq {f : List Int → Nat} {X : List Int → Prop} {m m' : Int} {b b' : List Int} (h : Best f X m b) (h' : Best f X m' b') : m = m' ∧ b = b' := by
  obtain ⟨h1, h2, h3⟩ := h
  obtain ⟨g1, g2, g3⟩ := h'
  have a := h3 b' g1
  have c := g3 b h1
  have e : m = m' := by omega
  refine ⟨e, ?_⟩
  rcases a.2 (by omega) with r | r
  · exact r
  · rcases c.2 (by omega) with q | q
    · exact q.symm
    · exact absurd (lx_trans r q) lx_irr
def lessI : List Int → List Int → Bool
  | x :: u, y :: v => cond (x != y) (decide (x < y)) (lessI u v)
  | _, _ => false
theorem less_ok : ∀ {u v : List Int}, lessI u v = true ↔ lx u v
  | x :: u, y :: v => by
    simp only [lessI, lx]
    by_cases e : x = y
    · subst e; simp [less_ok (u := u) (v := v)]
    · have : (x != y) = true := by rw [bne_iff_ne]; exact e
      rw [this, cond_true, decide_eq_true_eq]
      exact ⟨.inl, fun h => h.resolve_right fun h => e h.1⟩
  | [], _ => by simp [lessI, lx]
  | _ :: _, [] => by simp [lessI, lx]
def stq (p : Pal) (s : Int × List Int) (l : List Int) : Int × List Int := cond (decide ((cnt p l : Int) > s.1) || ((cnt p l : Int) == s.1 && lessI l s.2)) ((cnt p l : Int), l) s
theorem Best.step {p : Pal} {X : List Int → Prop} {s : Int × List Int} {q : List Int} (h : Best (cnt p) X s.1 s.2) (s' : Int × List Int)
    (hs : ((cnt p q : Int) > s.1 ∨ ((cnt p q : Int) = s.1 ∧ lx q s.2)) ∧ s' = ((cnt p q : Int), q) ∨ ((cnt p q : Int) < s.1 ∨ ((cnt p q : Int) = s.1 ∧ (s.2 = q ∨ lx s.2 q))) ∧ s' = s) : Best (cnt p) (fun x => X x ∨ x = q) s'.1 s'.2 := by
  obtain ⟨h1, h2, h3⟩ := h
  rcases hs with ⟨hc, rfl⟩ | ⟨hc, rfl⟩
  · refine ⟨.inr rfl, rfl, fun x hx => ?_⟩
    rcases hx with hx | rfl
    · have := h3 x hx
      refine ⟨by simp only; omega, fun e => ?_⟩
      rcases hc with hc | ⟨hc, hl⟩
      · simp only at e; omega
      · simp only at e
        rcases this.2 (by omega) with r | r
        · right; rw [← r]; exact hl
        · right; exact lx_trans hl r
    · exact ⟨Int.le_refl _, fun _ => .inl rfl⟩
  · refine ⟨.inl h1, h2, fun x hx => ?_⟩
    rcases hx with hx | rfl
    · exact h3 x hx
    · exact ⟨by omega, fun e => (hc.resolve_left (by omega)).2⟩
theorem lx_tot : ∀ {u v : List Int}, u.length = v.length → ¬ lx u v → v = u ∨ lx v u
  | [], [], _, _ => .inl rfl
  | x :: u, y :: v, h, hn => by
    simp only [lx, not_or, not_and] at hn ⊢
    by_cases e : x = y
    · subst e
      rcases lx_tot (by simpa using h) (hn.2 rfl) with r | r
      · left; rw [r]
      · right; right; exact ⟨rfl, r⟩
    · right; left; omega
  | [], _ :: _, h, _ => by simp at h
  | _ :: _, [], h, _ => by simp at h
theorem best_stq {p : Pal} {n : Nat} : ∀ (L : List (List Int)) (X : List Int → Prop) (s : Int × List Int), (∀ q ∈ L, q.length = n) → s.2.length = n → Best (cnt p) X s.1 s.2 → Best (cnt p) (fun x => X x ∨ x ∈ L) (L.foldl (stq p) s).1 (L.foldl (stq p) s).2
  | [], X, s, _, _, h => by
    have : (fun x => X x ∨ x ∈ ([] : List (List Int))) = X := by funext x; simp
    rw [this]; exact h
  | q :: L, X, s, hL, hn, h => by
    have hq := hL q (by simp)
    have e : (fun x => X x ∨ x ∈ q :: L) = fun x => (X x ∨ x = q) ∨ x ∈ L := by funext x; simp [or_assoc]
    rw [e, List.foldl_cons]
    have key : ((cnt p q : Int) > s.1 ∨ ((cnt p q : Int) = s.1 ∧ lx q s.2)) ∧ stq p s q = ((cnt p q : Int), q) ∨ ((cnt p q : Int) < s.1 ∨ ((cnt p q : Int) = s.1 ∧ (s.2 = q ∨ lx s.2 q))) ∧ stq p s q = s := by
      unfold stq
      by_cases c : decide ((cnt p q : Int) > s.1) || ((cnt p q : Int) == s.1 && lessI q s.2)
      · left
        refine ⟨?_, by rw [c]; rfl⟩
        simpa [less_ok] using c
      · rw [Bool.not_eq_true] at c
        right
        refine ⟨?_, by rw [c]; rfl⟩
        simp only [Bool.or_eq_false_iff, decide_eq_false_iff_not, Bool.and_eq_false_iff, beq_eq_false_iff_ne] at c
        by_cases e2 : (cnt p q : Int) = s.1
        · right
          have hnl : ¬ lx q s.2 := fun h => by
            have := less_ok.2 h
            rcases c.2 with c2 | c2
            · exact c2 e2
            · rw [this] at c2; cases c2
          exact ⟨e2, lx_tot (by omega) hnl⟩
        · left; omega
    refine best_stq L _ _ (fun x hx => hL x (by simp [hx])) ?_ (h.step _ key)
    rcases key with ⟨_, e⟩ | ⟨_, e⟩ <;> rw [e]
    · exact hq
    · exact hn
theorem best_stp {p : Pal} : ∀ (L : List (List Int)) (X : List Int → Prop) (s : Int × List Int), (∀ q ∈ L, lx s.2 q) → L.Pairwise lx → Best (cnt p) X s.1 s.2 → Best (cnt p) (fun x => X x ∨ x ∈ L) (L.foldl (stp p) s).1 (L.foldl (stp p) s).2
  | [], X, s, _, _, h => by
    have : (fun x => X x ∨ x ∈ ([] : List (List Int))) = X := by funext x; simp
    rw [this]; exact h
  | q :: L, X, s, hL, hp, h => by
    obtain ⟨p1, p2⟩ := List.pairwise_cons.1 hp
    have e : (fun x => X x ∨ x ∈ q :: L) = fun x => (X x ∨ x = q) ∨ x ∈ L := by funext x; simp [or_assoc]
    rw [e, List.foldl_cons]
    have key : ((cnt p q : Int) > s.1 ∨ ((cnt p q : Int) = s.1 ∧ lx q s.2)) ∧ stp p s q = ((cnt p q : Int), q) ∨ ((cnt p q : Int) < s.1 ∨ ((cnt p q : Int) = s.1 ∧ (s.2 = q ∨ lx s.2 q))) ∧ stp p s q = s := by
      unfold stp
      by_cases c : (cnt p q : Int) > s.1
      · left; exact ⟨.inl c, by rw [decide_eq_true c]; rfl⟩
      · right
        refine ⟨?_, by rw [decide_eq_false c]; rfl⟩
        by_cases e2 : (cnt p q : Int) = s.1
        · right; exact ⟨e2, .inr (hL q (by simp))⟩
        · left; omega
    refine best_stp L _ _ (fun x hx => ?_) p2 (h.step _ key)
    rcases key with ⟨_, e⟩ | ⟨_, e⟩ <;> rw [e]
    · exact p1 x hx
    · exact hL x (by simp [hx])
theorem Lk.pw : ∀ {o : List Int} {T : List (List Int)} {z : List Int}, Lk (o :: T) z → (o :: T).Pairwise Go.Proofs.Ytaioadjcdjmkdaa.lx
  | o, [], _, _ => by simp
  | o, o' :: T, z, h => List.pairwise_cons.2 ⟨Lk.asc h, Lk.pw h.2⟩
/-- Both find the same one. -/
theorem same_best {p : Pal} (hp : PalOk p) {l : List Int} (hs : SeqOk p l) : (pm l.length (srt l)).foldl (stp p) (0, []) = (ap l.length l).foldl (stq p) (0, []) := by
  have pos : ∀ q, q.Perm l → 0 < cnt p q := fun q hq => by
    have hsq : SeqOk p q := fun x hx => hs x (hq.mem_iff.1 hx)
    have hg := giv_lt hp hsq
    exact List.length_pos_iff.2 (cols_ne hg.1 hg.2 (nat7 hp).2.1)
  have b1 : Best (cnt p) (fun x => x.Perm l) ((pm l.length (srt l)).foldl (stp p) (0, [])).1 ((pm l.length (srt l)).foldl (stp p) (0, [])).2 := by
    obtain ⟨T, t1, t2⟩ := pm_ok l.length (srt l) (srt_perm l).length_eq (srt_asc l)
    have hmem : ∀ x, x ∈ srt l :: T ↔ x.Perm l := fun x => by
      rw [← t1]
      exact ⟨fun h => (pm_sound _ _ _ (srt_perm l).length_eq h).trans (srt_perm l), fun h => (perm_all _ _ _ (srt_perm l).length_eq (h.trans (srt_perm l).symm)).1⟩
    have h0 := pos (srt l) (srt_perm l)
    rw [t1, List.foldl_cons]
    have e0 : stp p (0, []) (srt l) = ((cnt p (srt l) : Int), srt l) := by rw [stp, decide_eq_true (by simp only; omega), cond_true]
    rw [e0]
    obtain ⟨p1, p2⟩ := List.pairwise_cons.1 t2.pw
    have := best_stp (p := p) T (fun x => x = srt l) ((cnt p (srt l) : Int), srt l) p1 p2 ⟨rfl, rfl, fun x hx => by subst hx; exact ⟨Int.le_refl _, fun _ => .inl rfl⟩⟩
    have e : (fun x => x = srt l ∨ x ∈ T) = fun x : List Int => x.Perm l := by funext x; rw [← hmem x, List.mem_cons]
    rw [e] at this; exact this
  have b2 : Best (cnt p) (fun x => x.Perm l) ((ap l.length l).foldl (stq p) (0, [])).1 ((ap l.length l).foldl (stq p) (0, [])).2 := by
    have hmem : ∀ x, x ∈ ap l.length l ↔ x.Perm l := fun x => ⟨ap_sound _ _ _ rfl, fun h => (perm_all _ _ _ rfl h).2⟩
    cases hL : ap l.length l with
    | nil =>
      have := (hmem l).2 (.refl _)
      rw [hL] at this; cases this
    | cons q L =>
      have hq := (hmem q).1 (by rw [hL]; simp)
      have h0 := pos q hq
      rw [List.foldl_cons]
      have e0 : stq p (0, []) q = ((cnt p q : Int), q) := by rw [stq, decide_eq_true (by simp only; omega), Bool.true_or, cond_true]
      rw [e0]
      have hlen : ∀ x ∈ q :: L, x.length = l.length := fun x hx => ((hmem x).1 (by rw [hL]; exact hx)).length_eq
      have := best_stq (p := p) (n := l.length) L (fun x => x = q) ((cnt p q : Int), q) (fun x hx => hlen x (by simp [hx])) (hlen q (by simp)) ⟨rfl, rfl, fun x hx => by subst hx; exact ⟨Int.le_refl _, fun _ => .inl rfl⟩⟩
      have e : (fun x => x = q ∨ x ∈ L) = fun x : List Int => x.Perm l := by funext x; rw [← hmem x, hL, List.mem_cons]
      rw [e] at this; exact this
  obtain ⟨e1, e2⟩ := b1.eq b2
  exact Prod.ext e1 e2

/-! ### the walk -/
def B51 (a b : List Int) : Option Bool := if a.length ≤ 1000 ∧ b.length ≤ 1000 then some (lessI a b) else none
theorem KB51 : FnOk Try.prog 51 (F51 B51) := ok51 B51 fun a b r h => ⟨1001, by
  simp only [B51] at h
  split at h
  · rename_i hl
    rw [← h, m51]
    have main := rangeIx a 0 (fun n (_ : Unit) t => l51a 1001 a b n t) (fun _ _ _ => True) (fun t xs _ => some (lessI xs (b.drop t)))
      (fun n _ t x rest ht hx _ ih => by
        simp only [l51a, ixA ht, cond_true, ixB ht, chk_true, Int.toNat_natCast, ixW ht (by omega), hx, ih () trivial]
        by_cases hb : t < b.length
        · rw [drop_at (d := 0) hb, ixA hb, cond_true, ixB hb, chk_true, lessI]
          cases x != b.getD t 0 <;> rfl
        · rw [decide_eq_false (by omega : ¬ (t : Int) < (b.length : Int)), cond_false, List.drop_eq_nil_of_le (by omega), List.drop_eq_nil_of_le (by omega)]
          cases rest <;> rfl)
      (fun n _ _ => by simp only [l51a, ixE, cond_false]; rfl) 1001 () (by omega) trivial
    rw [main, List.drop_zero]
  · cases h⟩
def tryQ (l left : List Int) (p2 : List Pal) (p3 : Int) (p4 : List Int) : List Pal × Int × List Int :=
  (p2, (((ap left.length left).map (l ++ ·)).foldl (stq (p2.getD 0 dP)) (p3, p4)).1, (((ap left.length left).map (l ++ ·)).foldl (stq (p2.getD 0 dP)) (p3, p4)).2)
def B50 (k : Nat) (l left : List Int) (p2 : List Pal) (p3 : Int) (p4 : List Int) : Option (List Pal × Int × List Int) :=
  if left.length < k ∧ okS (p2.getD 0 dP) (l ++ left) = true ∧ l.length + left.length ≤ 12 ∧ p4.length ≤ 1000 then some (tryQ l left p2 p3 p4) else none
theorem ap_len : ∀ (n : Nat) (M q : List Int), M.length = n → q ∈ ap n M → q.length = n := fun n M q h hq => by rw [(ap_sound n M q h hq).length_eq, h]
theorem stq_len {p : Pal} {k : Nat} : ∀ (L : List (List Int)) (s : Int × List Int), (∀ q ∈ L, q.length ≤ k) → s.2.length ≤ k → (L.foldl (stq p) s).2.length ≤ k
  | [], s, _, h => h
  | q :: L, s, hL, h => by
    rw [List.foldl_cons]
    refine stq_len L _ (fun x hx => hL x (by simp [hx])) ?_
    unfold stq
    cases decide ((cnt p q : Int) > s.1) || ((cnt p q : Int) == s.1 && lessI q s.2) with
    | true => exact hL q (by simp)
    | false => exact h
theorem KB50 : ∀ k, FnOk Try.prog 50 (F50c (B50 k))
  | 0 => by
    intro args Of x hx
    simp only [F50c] at hx
    split at hx
    · simp only [B50] at hx
      rw [if_neg (fun h => Nat.not_lt_zero _ h.1)] at hx; cases hx
    · cases hx
  | k + 1 => ok50c B43 B44 (B50 k) B51 KB43 KB44 (KB50 k) KB51 (B50 (k + 1)) fun l left p2 p3 p4 r h => ⟨1001, by
    simp only [B50] at h
    split at h
    · rename_i hf
      obtain ⟨hk, hok, hlen, h4⟩ := hf
      obtain ⟨hp, _, hs⟩ := okS_ok.1 hok
      rw [← h, m50c]
      generalize hpp : p2.getD 0 dP = p at *
      have hpp' : p2.getD 0 ((0 : Int), ([] : List (List Int)), ()) = p := hpp
      cases left with
      | nil =>
        have hsl : SeqOk p l := fun x hx => hs x (by simp [hx])
        have ec : (colsI (givI p l)).length = cnt p l := by simp [colsI, cnt]
        have e51 : B51 l p4 = some (lessI l p4) := by rw [B51, if_pos ⟨by omega, h4⟩]
        simp only [List.length_nil, show (((0 : Nat) : Int) == 0) = true from rfl, cond_true, hpp', B43_ok hp hsl (by omega), B44_lea hp hsl, Option.bind_some, ec, e51, tryQ, ap, List.map_cons, List.map_nil, List.append_nil, List.foldl_cons, List.foldl_nil, stq]
        cases decide ((cnt p l : Int) > p3) with
        | true => rfl
        | false => cases (cnt p l : Int) == p3 with
          | false => rfl
          | true => cases lessI l p4 <;> rfl
      | cons y ys =>
        generalize hleft : y :: ys = left at *
        have hne : 0 < left.length := by rw [← hleft]; simp
        have e0 : ((left.length : Int) == 0) = false := by rw [beq_eq_false_iff_ne]; omega
        obtain ⟨n, hn⟩ : ∃ n, left.length = n + 1 := ⟨left.length - 1, by omega⟩
        rw [e0, cond_false]
        let g : Nat → List (List Int) := fun t => ((ap n (wo left t)).map ([left.getD t 0] ++ ·)).map (l ++ ·)
        have main := rangeIx left 0 (fun m (s : Int × List Int) t => l50ca B43 B44 (B50 k) B51 1001 l left m t p2 s.1 s.2) (fun t xs s => t + xs.length = left.length ∧ s.2.length ≤ 1000) (fun t xs s => some (p2, (((List.range' t xs.length).flatMap g).foldl (stq p) s).1, (((List.range' t xs.length).flatMap g).foldl (stq p) s).2))
          (fun m s t x rest ht hx hI ih => by
            obtain ⟨hI, hs4⟩ := hI
            simp only [List.length_cons] at hI
            have hwl := wo_len ht
            have hs2 : SeqOk p ((l ++ [x]) ++ wo left t) := fun z hz => by
              rcases List.mem_append.1 hz with hz | hz
              · rcases List.mem_append.1 hz with hz | hz
                · exact hs z (by simp [hz])
                · simp at hz; subst hz; exact hs _ (List.mem_append.2 (.inr (by rw [← hx]; exact getD_mem ht)))
              · exact hs z (by simp [wo_mem hz])
            have en : (wo left t).length = n := by omega
            have rec1 : B50 k (l ++ [x]) (wo left t) p2 s.1 s.2 = some (p2, (((ap n (wo left t)).map ((l ++ [x]) ++ ·)).foldl (stq p) s).1, (((ap n (wo left t)).map ((l ++ [x]) ++ ·)).foldl (stq p) s).2) := by
              rw [B50, hpp, if_pos ⟨by omega, okS_ok.2 ⟨hp, by simp only [List.length_append, List.length_cons, List.length_nil]; omega, hs2⟩, by simp only [List.length_append, List.length_cons, List.length_nil]; omega, hs4⟩, tryQ, hpp, en]
            have d1 : decide (0 ≤ (t : Int) ∧ (t : Int) ≤ (left.length : Int)) = true := decide_eq_true (by omega)
            have d2 : decide (0 ≤ ((t + 1 : Nat) : Int) ∧ ((t + 1 : Nat) : Int) ≤ (left.length : Int)) = true := decide_eq_true (by omega)
            have d3 : small (0 + l.length) 8 = true := small_of (by omega) (by decide)
            have d4 : small (l.length + 1) 8 = true := small_of (by omega) (by decide)
            have d5 : small (0 + (left.take t).length) 8 = true := small_of (by simp; omega) (by decide)
            have d6 : small ((left.take t).length + (left.drop (t + 1)).length) 8 = true := small_of (by simp; omega) (by decide)
            have gt : g t = (ap n (wo left t)).map ((l ++ [x]) ++ ·) := by
              show ((ap n (wo left t)).map ([left.getD t 0] ++ ·)).map (l ++ ·) = _
              rw [List.map_map, hx]
              apply List.map_congr_left
              intro q _
              simp
            rw [List.length_cons, List.range'_succ, List.flatMap_cons, List.foldl_append, gt]
            have e7 : left.take t ++ left.drop (t + 1) = wo left t := rfl
            simp only [l50ca, ixA ht, ixB ht, cond_true, chk_true, Int.toNat_natCast, List.nil_append, hx, ixW ht (by omega), d1, d2, d3, d4, d5, d6, e7, Option.bind_some, rec1]
            refine ih _ ⟨by omega, stq_len _ _ (fun q hq => ?_) hs4⟩
            obtain ⟨q', hq', rfl⟩ := List.mem_map.1 hq
            have := ap_len n (wo left t) q' en hq'
            simp only [List.length_append, List.length_cons, List.length_nil]; omega)
          (fun m s hI => by simp only [l50ca, ixE, cond_false]; rfl) 1001 (p3, p4) (by omega) ⟨by simp, h4⟩
        refine main.trans ?_
        have q : (List.range' 0 left.length).flatMap g = (ap left.length left).map (l ++ ·) := by
          rw [← List.range_eq_range']
          conv => rhs; rw [hn, ap, List.map_flatMap]
        rw [q, tryQ, hpp]
    · cases h⟩

end Go.Proofs.Ytaioadjcdjmkdaa
