/-
  Weights by numbers; the law WeighMore.
-/
import Derived.Test.YtjcgjbdlgmbepaaT6
import Derived.Test.YtjcgjbdlgmbepaaWTM
namespace Go.Proofs.Ytjcgjbdlgmbepaa
open Go.RowKit
set_option linter.unusedVariables false

def B51t (l : List Int) : Option (List Int) := some l
theorem KB51t : FnOk Try.prog 51 (F51 B51t) := ok51 B51t fun l r h => ⟨0, h⟩
/-- What made returns. -/
structure Made (ws : List Int) : Prop where
  len : 1 ≤ ws.length ∧ ws.length ≤ 5
  pos : ∀ w ∈ ws, 1 ≤ w ∧ w ≤ 56
  asc : ws.Pairwise (· ≤ ·)
theorem Made.Pos {ws : List Int} (h : Made ws) : Pos ws := fun w hw => by have := h.pos w hw; omega
theorem Made.ok {ws : List Int} (h : Made ws) : wE ws = 0 := wE_of (by have := h.len; omega) h.Pos h.asc
def bytesOk (by' : List Int) : Prop := ∀ i, i < by'.length → 0 ≤ by'.getD i 0 ∧ by'.getD i 0 ≤ 255
def B43 (by' : List Int) : Option (List Int) := m43 B51t 1001 by'
theorem KB43 : FnOk Try.prog 43 (F43 B43) := ok43 B51t KB51t B43 fun b r h => ⟨1001, h⟩
theorem made_is (b : List Int) (hb : bytesOk b) : ∃ ws, B43 b = some ws ∧ Made ws := by
  unfold B43 m43
  have fin : ∀ o : List Int, o.length ≤ 5 → (∀ w ∈ o, 1 ≤ w ∧ w ≤ 56) → o.Pairwise (· ≤ ·) → ∃ ws, cond ((o.length : Int) == 0) ((B51t [2]).bind fun r1 => some r1) (some o) = some ws ∧ Made ws := by
    intro o h1 h2 h3
    by_cases c : o.length = 0
    · rw [c]; exact ⟨[2], rfl, ⟨by decide, by decide, by decide⟩⟩
    · rw [show ((o.length : Int) == 0) = false by rw [beq_eq_false_iff_ne]; omega]
      exact ⟨o, rfl, ⟨by omega, h2, h3⟩⟩
  refine countP' 0 5 (by omega) (fun m (s : Int × List Int) t => l43a B51t 1001 b m s.1 t s.2) (fun t s => (s.2.length : Int) = t ∧ (1 ≤ s.1 ∧ s.1 ≤ 1 + 11 * t) ∧ (∀ w ∈ s.2, 1 ≤ w ∧ w ≤ s.1) ∧ s.2.Pairwise (· ≤ ·)) (fun r => ∃ ws, r = some ws ∧ Made ws) ?_ ?_ 1001 (1, []) (by omega) ⟨rfl, by omega, by simp, by simp⟩
  · intro m s t h0 h5 ⟨i1, i2, i3, i4⟩ ih
    obtain ⟨k, rfl⟩ : ∃ k : Nat, t = (k : Int) := ⟨t.toNat, by omega⟩
    simp only [l43a]
    by_cases hk : k < b.length
    · have hx := hb k hk
      have e1 : w64 (b.getD k 0) = b.getD k 0 := w64_small (by omega)
      have e2 : Int.tmod (b.getD k 0) 12 = b.getD k 0 % 12 := Int.tmod_eq_emod_of_nonneg hx.1
      have e3 : w64 (s.1 + b.getD k 0 % 12) = s.1 + b.getD k 0 % 12 := w64_small (by omega)
      have e4 : w64 ((k : Int) + 1) = (k : Int) + 1 := w64_small (by omega)
      have s1 : small (s.2.length + 1) 8 = true := small_of (by omega) (by omega)
      rw [ixA hk, cond_true, decide_eq_true h5, cond_true, ixB hk, chk_true, Int.toNat_natCast, e1, e2, e3, e4, s1, chk_true]
      refine ih (s.1 + b.getD k 0 % 12, s.2 ++ [s.1 + b.getD k 0 % 12]) ⟨by simp; omega, ⟨by show 1 ≤ s.1 + _; omega, by show s.1 + _ ≤ _; omega⟩, fun w hw => ?_, ?_⟩
      · rcases List.mem_append.1 hw with hw | hw
        · have := i3 w hw; show 1 ≤ w ∧ w ≤ s.1 + _; omega
        · have hw : w = s.1 + b.getD k 0 % 12 := List.mem_singleton.1 hw
          subst hw; show 1 ≤ s.1 + _ ∧ s.1 + _ ≤ s.1 + _; omega
      · refine List.pairwise_append.2 ⟨i4, List.pairwise_singleton .., fun x hx y hy => ?_⟩
        have hy : y = s.1 + b.getD k 0 % 12 := List.mem_singleton.1 hy
        have := i3 x hx; omega
    · rw [decide_eq_false (show ¬ (k : Int) < (b.length : Int) by omega), cond_false]
      exact fin s.2 (by omega) (fun w hw => by have := i3 w hw; omega) i4
  · intro m s ⟨i1, i2, i3, i4⟩
    simp only [l43a]
    rw [show decide ((5 : Int) < 5) = false from rfl, cond_false]
    have := fin s.2 (by omega) (fun w hw => by have := i3 w hw; omega) i4
    cases decide (5 < (b.length : Int)) <;> exact this

/-! ### more lemmas -/
theorem posL_asc (ws : List Int) : (posL ws).Pairwise (· < ·) := (sumS_asc ws).filter _
theorem mem_posL {ws : List Int} {x : Int} : x ∈ posL ws ↔ R ws x ∧ 0 < x := by
  rw [posL, List.mem_filter, mem_sumS, decide_eq_true_eq]
theorem rl_bound : ∀ (l : List Int) (n : Int), rl n l ≤ n + (l.length : Int)
  | [], n => by simp [rl]
  | x :: xs, n => by
    rw [rl, List.length_cons]
    cases x == n + 1 with
    | true => have := rl_bound xs (n + 1); rw [cond_true]; omega
    | false => rw [cond_false]; omega
theorem rl_all : ∀ (l : List Int) (n x : Int), n < x → x ≤ rl n l → x ∈ l
  | [], n, x, h1, h2 => by rw [rl] at h2; omega
  | y :: ys, n, x, h1, h2 => by
    rw [rl] at h2
    cases c : y == n + 1 with
    | true =>
      rw [c, cond_true] at h2
      have hy : y = n + 1 := by simpa using c
      by_cases e : x = n + 1
      · rw [e, hy]; exact List.mem_cons_self ..
      · exact List.mem_cons_of_mem _ (rl_all ys (n + 1) x (by omega) h2)
    | false => rw [c, cond_false] at h2; omega
theorem rl_not : ∀ (l : List Int) (n : Int), l.Pairwise (· < ·) → (∀ x ∈ l, n < x) → rl n l + 1 ∉ l
  | [], n, _, _ => by simp
  | y :: ys, n, ha, hl => by
    obtain ⟨a, b⟩ := List.pairwise_cons.1 ha
    have hy := hl y (List.mem_cons_self ..)
    rw [rl]
    cases c : y == n + 1 with
    | true =>
      have hy : y = n + 1 := by simpa using c
      rw [cond_true]
      intro hm
      have ge := rl_le ys (n + 1)
      rcases List.mem_cons.1 hm with e | hm
      · omega
      · exact rl_not ys (n + 1) b (fun z hz => by have := a z hz; omega) hm
    | false =>
      rw [cond_false]
      have hy' : y ≠ n + 1 := by simpa using c
      intro hm
      rcases List.mem_cons.1 hm with e | hm
      · exact hy' e.symm
      · have := a _ hm; omega
theorem R_mid {x : Int} {post : List Int} : ∀ {pre : List Int} {v : Int}, R (pre ++ post) v → R (pre ++ x :: post) v
  | [], v, h => R_cons.2 (.inr (.inl h))
  | p :: pre, v, h => by
    rw [List.cons_append] at h ⊢
    rw [R_cons] at h ⊢
    rcases h with h | h | h
    · exact .inl (R_mid h)
    · exact .inr (.inl (R_mid h))
    · exact .inr (.inr (R_mid h))
theorem R_mul {k : Int} (hk : 0 < k) : ∀ {ws : List Int} {x : Int}, R (ws.map (k * ·)) x ↔ ∃ y, R ws y ∧ x = k * y
  | [], x => by
    rw [List.map_nil, R_nil]
    constructor
    · rintro rfl; exact ⟨0, R_nil.2 rfl, by simp⟩
    · rintro ⟨y, h, rfl⟩; rw [R_nil] at h; subst h; simp
  | w :: ws, x => by
    rw [List.map_cons, R_cons, R_mul hk, R_mul hk, R_mul hk]
    constructor
    · rintro (⟨y, h, e⟩ | ⟨y, h, e⟩ | ⟨y, h, e⟩)
      · exact ⟨y + w, R_cons.2 (.inl (by rwa [show y + w - w = y by omega])), by rw [Int.mul_add]; omega⟩
      · exact ⟨y, R_cons.2 (.inr (.inl h)), e⟩
      · exact ⟨y - w, R_cons.2 (.inr (.inr (by rwa [show y - w + w = y by omega]))), by rw [Int.mul_sub]; omega⟩
    · rintro ⟨y, h, rfl⟩
      rcases R_cons.1 h with h | h | h
      · exact .inl ⟨_, h, by rw [Int.mul_sub]⟩
      · exact .inr (.inl ⟨_, h, rfl⟩)
      · exact .inr (.inr ⟨_, h, by rw [Int.mul_add]⟩)
theorem posL_mul {k : Int} (hk : 0 < k) (ws : List Int) : posL (ws.map (k * ·)) = (posL ws).map (k * ·) := by
  refine asc_eq (posL_asc _) (List.pairwise_map.2 ((posL_asc ws).imp fun h => Int.mul_lt_mul_of_pos_left h hk)) fun x => ?_
  rw [mem_posL, List.mem_map, R_mul hk]
  constructor
  · rintro ⟨⟨y, h, rfl⟩, h0⟩
    exact ⟨y, mem_posL.2 ⟨h, Int.pos_of_mul_pos_right h0 hk⟩, rfl⟩
  · rintro ⟨y, h, rfl⟩
    obtain ⟨h1, h2⟩ := mem_posL.1 h
    exact ⟨⟨y, h1, rfl⟩, Int.mul_pos hk h2⟩
theorem posL_last {ws : List Int} (hp : Pos ws) (hl : 1 ≤ ws.length) : (posL ws) ≠ [] ∧ (posL ws).getD ((posL ws).length - 1) 0 = ws.sum := by
  have hs := hp.sum
  have hs1 : 0 < ws.sum := by
    cases ws with
    | nil => simp at hl
    | cons w ws =>
      have a := hp w (List.mem_cons_self ..)
      have b := Pos.sum (ws := ws) fun v hv => hp v (List.mem_cons_of_mem _ hv)
      rw [List.sum_cons]; omega
  have hm : ws.sum ∈ posL ws := mem_posL.2 ⟨R_sum ws, hs1⟩
  have hne : posL ws ≠ [] := fun e => by rw [e] at hm; cases hm
  refine ⟨hne, ?_⟩
  have hlen : 0 < (posL ws).length := List.length_pos_iff.2 hne
  obtain ⟨i, hi, e⟩ := List.getElem_of_mem hm
  have hlast : (posL ws)[(posL ws).length - 1]'(by omega) ≤ ws.sum := (R_le hp.nonneg (mem_posL.1 (List.getElem_mem _)).1).2
  rw [List.getD_eq_getElem?_getD, List.getElem?_eq_getElem (by omega), Option.getD_some]
  by_cases c : i = (posL ws).length - 1
  · subst c; exact e
  · have := List.pairwise_iff_getElem.1 (posL_asc ws) i ((posL ws).length - 1) hi (by omega) (by omega)
    omega

/-! ### WeighMore -/
theorem more_law (N : Nat) (hN : 20000 ≤ N) (b : List Int) (more times : Int) (hb : bytesOk b) (hm : 0 ≤ more ∧ more ≤ 255) (ht : 0 ≤ times ∧ times ≤ 255) : m10 (some true) B17 B19 B43 N b more times = some true := by
  obtain ⟨ws, e43, M⟩ := made_is b hb
  have hlen := M.len
  rw [m10, e43, Option.bind_some]
  have ek : w64 (1 + (Int.tmod (w64 (times)) 9)) = 1 + times % 9 := by
    rw [w64_small (x := times) (by omega), Int.tmod_eq_emod_of_nonneg ht.1, w64_small (by omega)]
  have ex : w64 (1 + (Int.tmod (w64 (more)) 60)) = 1 + more % 60 := by
    rw [w64_small (x := more) (by omega), Int.tmod_eq_emod_of_nonneg hm.1, w64_small (by omega)]
  have hk : 0 < 1 + times % 9 ∧ 1 + times % 9 ≤ 9 := by omega
  have hx : 1 ≤ 1 + more % 60 ∧ 1 + more % 60 ≤ 60 := by omega
  generalize 1 + times % 9 = k at ek hk
  generalize 1 + more % 60 = x at ex hx
  have hmp : Made ws := M
  have okw := M.ok
  have hP := M.Pos
  have hbd : ∀ v ∈ ws, 1 ≤ v ∧ v ≤ 56 := M.pos
  have okl : wE (ws.map (k * ·)) = 0 := by
    refine wE_of (by simp; omega) (fun v hv => ?_) (List.pairwise_map.2 (M.asc.imp fun h => Int.mul_le_mul_of_nonneg_left h (by omega)))
    obtain ⟨w, hw, rfl⟩ := List.mem_map.1 hv
    have hw := hbd w hw
    have h1 : k * w ≤ 9 * 56 := Int.mul_le_mul hk.2 hw.2 (by omega) (by omega)
    have h2 : 0 < k * w := Int.mul_pos hk.1 (by omega)
    show 1 ≤ k * w ∧ k * w ≤ 2000
    omega
  obtain ⟨lne, llast⟩ := posL_last hP hlen.1
  have lpos : 0 < (posL ws).length := List.length_pos_iff.2 lne
  have la := posL_len okw
  -- the rounds at the end
  have fin : ∀ plus : List Int, wE plus = 0 → (∀ v, R ws v → R plus v) →
      l10c (some true) B17 B19 B43 N times N (posL plus) ((posL ws).map (k * ·)) 0 (posL ws) ((posL ws).length : Int) 0 = some true := by
    intro plus hpl hR
    have lb := posL_len hpl
    have hbA := posL_asc plus
    generalize hB : posL plus = B at lb hbA
    have hsub : ∀ y ∈ posL ws, y ∈ B := fun y hy => by
      obtain ⟨h1, h2⟩ := mem_posL.1 hy
      rw [← hB]; exact mem_posL.2 ⟨hR y h1, h2⟩
    have hle : ∀ y ∈ posL ws, 0 < y ∧ y ≤ 14000 := fun y hy => by
      obtain ⟨h1, h2⟩ := mem_posL.1 hy
      have := R_le hP.nonneg h1
      have := hP.sum
      omega
    exact rangeIx (posL ws) 0 (fun n (s : Int) t => l10c (some true) B17 B19 B43 N times n B ((posL ws).map (k * ·)) s (posL ws) ((posL ws).length : Int) t)
      (fun t xs s => (∃ j : Nat, s = (j : Int) ∧ j ≤ B.length ∧ ∀ i, i < j → ∀ y ∈ xs, B.getD i 0 < y) ∧ xs.Pairwise (· < ·) ∧ ∀ y ∈ xs, y ∈ posL ws) (fun _ _ _ => some true)
      (fun n s t v rest htt hv hI ih => by
        obtain ⟨⟨j, rfl, hj, hlow⟩, hasc, hin⟩ := hI
        obtain ⟨a1, a2⟩ := List.pairwise_cons.1 hasc
        have hvA := hin v (List.mem_cons_self ..)
        obtain ⟨q, hq, eq⟩ := List.getElem_of_mem (hsub v hvA)
        have eqd : B.getD q 0 = v := by rw [List.getD_eq_getElem?_getD, List.getElem?_eq_getElem hq]; exact eq
        have hjq : j ≤ q := by
          by_cases c : q < j
          · have := hlow q c v (List.mem_cons_self ..); omega
          · omega
        have hlt : ∀ i, i < q → B.getD i 0 < v := fun i hi => by
          have := List.pairwise_iff_getElem.1 hbA i q (by omega) hq hi
          rw [List.getD_eq_getElem?_getD, List.getElem?_eq_getElem (by omega)]
          show B[i]'(by omega) < v
          omega
        have hvb := hle v hvA
        have hcl : t < ((posL ws).map (k * ·)).length := by simpa using htt
        have hcv : ((posL ws).map (k * ·)).getD t 0 = k * v := by
          rw [← hv, List.getD_eq_getElem?_getD, List.getD_eq_getElem?_getD, List.getElem?_map, List.getElem?_eq_getElem htt]; rfl
        have hkv : w64 (k * v) = k * v := by
          have h1 : k * v ≤ 9 * 14000 := Int.mul_le_mul hk.2 hvb.2 (by omega) (by omega)
          have h2 : 0 < k * v := Int.mul_pos hk.1 hvb.1
          exact w64_small (by omega)
        simp only [l10c, ixA htt, ixB htt, cond_true, chk_true]
        exact countUp (j : Int) (q : Int) (by omega) (fun m (_ : Unit) at' => l10d (some true) B17 B19 B43 N times B ((posL ws).map (k * ·)) (posL ws) ((posL ws).length : Int) (t : Int) (fun y0 y1 y2 y3 y4 y5 => l10c (some true) B17 B19 B43 N times n y0 y1 y2 y3 y4 y5) m at') (fun _ _ => True) (fun _ _ => some true)
          (fun m _ at' h1 h2 _ ih' => by
            obtain ⟨i, rfl⟩ : ∃ i : Nat, at' = (i : Int) := ⟨at'.toNat, by omega⟩
            have hi : i < B.length := by omega
            have hw : w64 ((i : Int) + 1) = (i : Int) + 1 := w64_small (by omega)
            simp only [l10d, ixA hi, ixB hi, cond_true, chk_true, Int.toNat_natCast, hv, decide_eq_true (hlt i (by omega)), hw]
            exact ih' () trivial)
          (fun m _ _ => by
            have hne : ((q : Int) == (B.length : Int)) = false := by rw [beq_eq_false_iff_ne]; omega
            simp only [l10d, ixA hq, ixB hq, ixB hcl, cond_true, chk_true, Int.toNat_natCast, hv, eqd, decide_eq_false (show ¬ v < v by omega), cond_false, hne, bne_self_eq_false, hcv, ek, hkv, ixW htt (by omega)]
            exact ih (q : Int) ⟨⟨q, rfl, by omega, fun i hi y hy => by have := hlt i hi; have := a1 y hy; omega⟩, a2, fun y hy => hin y (List.mem_cons_of_mem _ hy)⟩) N () (by omega) trivial)
      (fun n s _ => by simp only [l10c, ixE, cond_false]; rfl) N 0 (by omega) ⟨⟨0, rfl, by omega, fun i hi => by omega⟩, posL_asc ws, fun y hy => hy⟩
  have lo : ∀ {vs : List Int}, wE vs = 0 → B17 vs = some (posL vs, 0) := fun h => by rw [B17, loadsS, h]; rfl
  have ro : ∀ {vs : List Int}, wE vs = 0 → B19 vs = some (rl 0 (posL vs), 0) := fun h => by rw [B19, reachS, h]; rfl
  have insert : ∀ pre post : List Int, ws = pre ++ post → (∀ w ∈ pre, w ≤ x) → (∀ w ∈ post, x ≤ w) → wE (pre ++ x :: post) = 0 ∧ ∀ v, R ws v → R (pre ++ x :: post) v := by
    intro pre post e h1 h2
    have asc := M.asc
    rw [e] at asc
    obtain ⟨a1, a2, a3⟩ := List.pairwise_append.1 asc
    refine ⟨wE_of ?_ ?_ ?_, fun v hv => by rw [e] at hv; exact R_mid hv⟩
    · have := congrArg List.length e
      simp at this ⊢; omega
    · intro w hw
      rcases List.mem_append.1 hw with hw | hw
      · have := hbd w (by rw [e]; exact List.mem_append_left _ hw); omega
      · rcases List.mem_cons.1 hw with rfl | hw
        · omega
        · have := hbd w (by rw [e]; exact List.mem_append_right _ hw); omega
    · refine List.pairwise_append.2 ⟨a1, List.pairwise_cons.2 ⟨h2, a2⟩, fun u hu v hv => ?_⟩
      rcases List.mem_cons.1 hv with rfl | hv
      · exact h1 u hu
      · exact a3 u hu v hv
  -- the last checks
  have checks : ∀ plus : List Int, wE plus = 0 → (∀ v, R ws v → R plus v) → ((B17 ws).bind fun r2 => (B17 plus).bind fun r3 => (B17 (ws.map (k * ·))).bind fun r4 => (B19 ws).bind fun r5 =>
      cond (r2.2 != 0) (some false) (cond (r3.2 != 0) (some false) (cond (r4.2 != 0) (some false) (cond (r5.2 != 0) (some false) (cond ((r2.1.length : Int) == 0) (some false)
      (chk (decide (0 ≤ w64 ((r2.1.length : Int) - 1) ∧ w64 ((r2.1.length : Int) - 1) < (r2.1.length : Int))) (cond ((r2.1.getD ((w64 ((r2.1.length : Int) - 1)).toNat) 0) != ws.sum) (some false)
      (cond ((r4.1.length : Int) != (r2.1.length : Int)) (some false) (cond (decide (r5.1 > (r2.1.length : Int))) (some false)
      (l10c (some true) B17 B19 B43 N times N r3.1 r4.1 0 r2.1 (r2.1.length : Int) 0)))))))))) = some true := by
    intro plus h1 h2
    have hw : w64 (((posL ws).length : Int) - 1) = (((posL ws).length - 1 : Nat) : Int) := by rw [w64_small (by omega)]; omega
    have hb := rl_bound (posL ws) 0
    rw [lo okw, lo h1, lo okl, ro okw, posL_mul hk.1]
    simp only [Option.bind_some, bne_self_eq_false, cond_false, show (((posL ws).length : Int) == 0) = false from by rw [beq_eq_false_iff_ne]; omega, hw, Int.toNat_natCast, ixB (show (posL ws).length - 1 < (posL ws).length by omega), chk_true, llast, List.length_map,
      decide_eq_false (show ¬ rl 0 (posL ws) > ((posL ws).length : Int) by omega)]
    exact fin plus h1 h2
  have hsum := hP.sum
  exact rangeIx ws 0 (fun n (s : Int × List Int) t => l10a (some true) B17 B19 B43 N more times ws n s.1 t s.2) (fun t xs s => s.1 + xs.sum = ws.sum ∧ 0 ≤ s.1 ∧ s.2 = (ws.take t).map (k * ·) ∧ (∀ w ∈ xs, w ∈ ws)) (fun _ _ _ => some true)
    (fun n s t w rest htt hw hI ih => by
      obtain ⟨i1, i2, i3, i4⟩ := hI
      have hwb := hbd w (i4 w (List.mem_cons_self ..))
      have hrs := Pos.sum (ws := rest) fun v hv => hP v (i4 v (List.mem_cons_of_mem _ hv))
      rw [List.sum_cons] at i1
      have s1 : small (s.2.length + 1) 8 = true := small_of (by rw [i3]; simp; omega) (by omega)
      have hkw : w64 (k * w) = k * w := by
        have h1 : k * w ≤ 9 * 56 := Int.mul_le_mul hk.2 hwb.2 (by omega) (by omega)
        have h2 : 0 < k * w := Int.mul_pos hk.1 (by omega)
        exact w64_small (by omega)
      have htake : ws.take (t + 1) = ws.take t ++ [w] := by
        rw [List.take_add_one, List.getElem?_eq_getElem htt]
        rw [List.getD_eq_getElem?_getD, List.getElem?_eq_getElem htt] at hw
        rw [← hw]; rfl
      simp only [l10a, ixA htt, ixB htt, cond_true, chk_true, Int.toNat_natCast, hw, s1, ek, hkw, ixW htt (by omega), w64_small (show -4611686018427387904 ≤ s.1 + w ∧ s.1 + w ≤ 4611686018427387904 by omega)]
      exact ih (s.1 + w, s.2 ++ [k * w]) ⟨by show s.1 + w + _ = _; omega, by show 0 ≤ s.1 + w; omega, by show s.2 ++ [k * w] = _; rw [i3, htake, List.map_append]; rfl, fun v hv => i4 v (List.mem_cons_of_mem _ hv)⟩)
    (fun n s hI => by
      obtain ⟨i1, i2, i3, i4⟩ := hI
      have es : s.1 = ws.sum := by simpa using i1
      rw [List.take_length] at i3
      simp only [l10a, ixE, cond_false]
      rw [es, i3]
      exact rangeIx ws 0 (fun n (q : Bool × List Int) t => l10b (some true) B17 B19 B43 N more times ws ws.sum (ws.map (k * ·)) n q.1 t q.2)
        (fun t xs q => q.2.length = t + cond q.1 1 0 ∧ cond q.1 (∃ pre post, ws = pre ++ post ∧ q.2 ++ xs = pre ++ x :: post ∧ (∀ w ∈ pre, w ≤ x) ∧ ∀ w ∈ post, x ≤ w) (q.2 ++ xs = ws ∧ ∀ w ∈ q.2, w ≤ x)) (fun _ _ _ => some true)
        (fun n q t w rest htt hw hI ih => by
          obtain ⟨put, o⟩ := q
          obtain ⟨j1, j2⟩ := hI
          have j1' : o.length ≤ t + 1 := by cases put <;> simp at j1 <;> omega
          have s1 : small (o.length + 1) 8 = true := small_of (by omega) (by omega)
          have s2 : small ((o ++ [x]).length + 1) 8 = true := small_of (by simp; omega) (by omega)
          simp only [l10b, ixA htt, ixB htt, cond_true, chk_true, Int.toNat_natCast, hw, s1, s2, ex, ixW htt (by omega)]
          cases put with
          | true =>
            have j2 : ∃ pre post, ws = pre ++ post ∧ o ++ (w :: rest) = pre ++ x :: post ∧ (∀ w ∈ pre, w ≤ x) ∧ ∀ w ∈ post, x ≤ w := j2
            have nx := ih (true, o ++ [w]) ⟨by simp at j1 ⊢; omega, by
              obtain ⟨pre, post, a, b, c, d⟩ := j2
              exact ⟨pre, post, a, by simpa using b, c, d⟩⟩
            cases decide (x < w) <;> exact nx
          | false =>
            have j2 : o ++ (w :: rest) = ws ∧ ∀ w ∈ o, w ≤ x := j2
            obtain ⟨e, hle⟩ := j2
            by_cases c : x < w
            · rw [decide_eq_true c]
              have asc := M.asc
              rw [← e] at asc
              obtain ⟨_, a2, _⟩ := List.pairwise_append.1 asc
              obtain ⟨b1, _⟩ := List.pairwise_cons.1 a2
              exact ih (true, o ++ [x] ++ [w]) ⟨by simp at j1 ⊢; omega, o, w :: rest, e.symm, by simp, hle, fun v hv => by
                rcases List.mem_cons.1 hv with rfl | hv
                · omega
                · have := b1 v hv; omega⟩
            · rw [decide_eq_false c]
              exact ih (false, o ++ [w]) ⟨by simp at j1 ⊢; omega, by simpa using e, fun v hv => by
                rcases List.mem_append.1 hv with hv | hv
                · exact hle v hv
                · have hv : v = w := List.mem_singleton.1 hv
                  omega⟩)
        (fun n q hI => by
          obtain ⟨put, o⟩ := q
          obtain ⟨j1, j2⟩ := hI
          have j1' : o.length ≤ ws.length + 1 := by cases put <;> simp at j1 <;> omega
          have s1 : small (o.length + 1) 8 = true := small_of (by omega) (by omega)
          simp only [l10b, ixE, cond_false, s1, chk_true, ex]
          cases put with
          | true =>
            obtain ⟨pre, post, a, b, c, d⟩ : ∃ pre post, ws = pre ++ post ∧ o ++ [] = pre ++ x :: post ∧ (∀ w ∈ pre, w ≤ x) ∧ ∀ w ∈ post, x ≤ w := j2
            rw [List.append_nil] at b
            obtain ⟨k1, k2⟩ := insert pre post a c d
            rw [← b] at k1 k2
            exact checks o k1 k2
          | false =>
            obtain ⟨e, hle⟩ : o ++ [] = ws ∧ ∀ w ∈ o, w ≤ x := j2
            rw [List.append_nil] at e
            obtain ⟨k1, k2⟩ := insert o [] (by rw [List.append_nil]; exact e.symm) hle (fun w hw => by cases hw)
            exact checks (o ++ [x]) k1 k2) N (false, []) (by omega) ⟨by simp, by simp, fun w hw => by cases hw⟩) N (0, []) (by omega) ⟨by simp, by simp, by simp, fun w hw => hw⟩
theorem KB10 (b : List Int) (more times : Int) (hb : bytesOk b) (hm : 0 ≤ more ∧ more ≤ 255) (ht : 0 ≤ times ∧ times ≤ 255) : FnOk Try.prog 10 (F10 fun c m t => if c = b ∧ m = more ∧ t = times then some true else none) :=
  ok10 (some true) B17 B19 B43 K16t KB17 KB19 KB43 _ fun c m t r h => ⟨20000, by
    split at h
    · rename_i hc
      rw [← h, hc.1, hc.2.1, hc.2.2]; exact more_law 20000 (Nat.le_refl _) b more times hb hm ht
    · cases h⟩
end Go.Proofs.Ytjcgjbdlgmbepaa
