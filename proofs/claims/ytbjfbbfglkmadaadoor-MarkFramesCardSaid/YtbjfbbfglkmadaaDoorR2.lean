/-
  The reference: checks, distances, coalitions, copies.
-/
import Derived.Test.YtbjfbbfglkmadaaDoorMP
import Derived.Test.YtbjfbbfglkmadaaDoorRA
namespace Go.Proofs.YtbjfbbfglkmadaaDoor
open Go.RowKit
set_option linter.unusedVariables false

def B65 (n lo hi : Int) : Option Bool := some (decide (lo ≤ n ∧ n ≤ hi))
theorem KB86 : FnOk Tryd.prog 86 (F86 B65) := ok86 B65 fun n lo hi r h => ⟨0, by
  rw [← h]; simp only [m86, B65]
  by_cases a : lo ≤ n <;> simp [a]⟩
theorem KB65 : FnOk Tryd.prog 65 (F65 B65) := ok65 B65 KB86 B65 fun n lo hi r h => ⟨0, by
  rw [← h]; simp only [m65, B65, Option.bind_some]⟩

theorem KB23 : FnOk Tryd.prog 23 (F23 B22) := ok23 B65 KB65 B22 fun c r h => ⟨1001, by
  simp only [B22] at h
  split at h
  · rename_i hs
    obtain ⟨h1, h2⟩ := smB_at hs
    rw [← h, m23]
    simp only [B65, Option.bind_some, cdE, lenEq0]
    cases eM : decide (2 ≤ c.1 ∧ c.1 ≤ 4) with
    | false => rfl
    | true =>
      have hM := of_decide_eq_true eM
      simp only [Bool.not_true, cond_true, cond_false]
      cases e0 : decide (c.2.1.length = 0) with
      | true => rfl
      | false =>
        have h0 : 0 < c.2.1.length := by have := of_decide_eq_false e0; omega
        simp only [cond_false]
        rw [show decide ((c.2.1.length : Int) > 10) = decide (10 < c.2.1.length) from lenGt _ 10]
        cases decide (10 < c.2.1.length) with
        | true => rfl
        | false =>
          simp only [cond_false]
          -- bounds
          have hB : (∀ w ∈ c.2.1, w.length = sz c) → l23b B65 1001 c 1001 0 = some (cond (c.2.1.any fun w => w.any (outM c.1)) 4 0) := fun hall => by
            refine rangeInv c.2.1 [] (fun n (_ : Unit) t => l23b B65 1001 c n t) (fun xs _ => ∀ w ∈ xs, w.length ≤ 1000) (fun xs _ => some (cond (xs.any fun w => w.any (outM c.1)) 4 0)) (fun n _ t x rest ht hx hI ih => ?_)
              (fun n _ _ => by simp only [l23b, ixE, cond_false]; rfl) 1001 () (by omega) h2
            simp only [l23b, ixA ht, cond_true]
            refine (rangeInd x 0 (fun n' (_ : Unit) k => l23c B65 1001 c (t : Int) (fun y0 => l23b B65 1001 c n y0) n' k) (fun ys _ => cond (ys.any (outM c.1)) (some 4) (l23b B65 1001 c n ((t + 1 : Nat) : Int))) (fun n' _ k y ys hk hy ih' => ?_)
              (fun n' _ => by simp only [l23c, ixB ht, chk_true, Int.toNat_natCast, hx, ixE, cond_false, ixW ht (by omega)]; rfl) 1001 () (by have := hI x (by simp); omega)).trans ?_
            · simp only [l23c, ixB ht, chk_true, Int.toNat_natCast, hx, ixA hk, ixB hk, cond_true, hy, B65, Option.bind_some, ixW hk (by have := hI x (by simp); omega), ih' ()]
              show cond (outM c.1 y) _ _ = _
              rw [List.any_cons]
              cases outM c.1 y <;> rfl
            · rw [ih () fun w hw => hI w (by simp [hw]), List.any_cons]
              cases x.any (outM c.1) <;> rfl
          cases e4 : decide (1 ≤ sz c ∧ sz c ≤ 8) with
          | false =>
            have := of_decide_eq_false e4
            have hd : decide ((1 : Int) ≤ (((c.2.1.getD 0 []).length : Nat) : Int) ∧ (((c.2.1.getD 0 []).length : Nat) : Int) ≤ 8) = false := decide_eq_false (by unfold sz at this; omega)
            have : ∀ n, l23a B65 1001 c (n + 1) 0 = some 3 := fun n => by
              simp only [l23a, show decide ((0 : Int) < (c.2.1.length : Int)) = true from decide_eq_true (by omega), cond_true, chk_dec (show 0 ≤ (0 : Int) ∧ (0 : Int) < (c.2.1.length : Int) by omega), B65, Option.bind_some, hd, Bool.not_false]
            rw [cond_false]; exact this 1000
          | true =>
            have h4 := of_decide_eq_true e4
            have hd : decide ((1 : Int) ≤ (((c.2.1.getD 0 []).length : Nat) : Int) ∧ (((c.2.1.getD 0 []).length : Nat) : Int) ≤ 8) = true := decide_eq_true (by unfold sz at h4; omega)
            rw [cond_true]
            refine (rangeInd c.2.1 [] (fun n (_ : Unit) t => l23a B65 1001 c n t) (fun xs _ => cond (xs.any fun w => !decide (w.length = sz c)) (some 3) (l23b B65 1001 c 1001 0)) (fun n _ t x rest ht hx ih => ?_)
              (fun n _ => by simp only [l23a, ixE, cond_false]; rfl) 1001 () (by omega)).trans ?_
            · simp only [l23a, ixA ht, ixB ht, cond_true, chk_true, Int.toNat_natCast, chk_dec (show 0 ≤ (0 : Int) ∧ (0 : Int) < (c.2.1.length : Int) by omega), B65, hd, Option.bind_some, Bool.not_true, cond_false, hx, ixW ht (by omega), ih ()]
              rw [show ((x.length : Int) != ((c.2.1.getD 0 []).length : Int)) = !decide (x.length = sz c) from lenNe _ _, List.any_cons]
              cases decide (x.length = sz c) <;> rfl
            · cases ea : c.2.1.any fun w => !decide (w.length = sz c) with
              | true => rfl
              | false =>
                rw [cond_false, cond_false]
                exact hB fun w hw => by simpa using List.any_eq_false.1 ea w hw
  · cases h⟩

theorem KB54 : FnOk Tryd.prog 54 (F54 B53) := ok54 B53 fun a b r h => ⟨1001, by
  simp only [B53] at h
  split at h
  · rename_i hl
    rw [← h, m54]
    exact rangeIx a 0 (fun n s t => l54a 1001 a b n s t) (fun t _ s => 0 ≤ s ∧ s ≤ t) (fun t xs s => some (apF b t xs s))
      (fun n s t x rest ht hx hI ih => by
        have e := ih (cond (x != b.getD t 0) (s + 1) s)
        simp only [l54a, ixA ht, ixB ht, ixB (show t < b.length by omega), cond_true, chk_true, Int.toNat_natCast, ixW ht (by omega), hx, apF]
        cases hb : (x != b.getD t 0) with
        | true => rw [hb] at e; rw [cond_true, w64_small (by omega)]; exact e (by simp only [cond_true]; omega)
        | false => rw [hb] at e; exact e (by simp only [cond_false]; omega))
      (fun n s hI => by simp only [l54a, ixE, cond_false]; rfl) 1001 0 (by omega) ⟨Int.le_refl _, Int.le_refl _⟩
  · cases h⟩

theorem imin_le (a b : Int) : imin a b ≤ a ∧ imin a b ≤ b ∧ (imin a b = a ∨ imin a b = b) := by
  unfold imin; split <;> omega
theorem minF_eq : ∀ {l : List Int} {a b : Int}, (∀ x ∈ l, x ≤ a ∧ x ≤ b) → l ≠ [] → minF a l = minF b l
  | [], _, _, _, h => absurd rfl h
  | x :: r, a, b, hl, _ => by
    have := hl x (by simp)
    have e : imin a x = imin b x := by unfold imin; split <;> split <;> omega
    show minF (imin a x) r = minF (imin b x) r
    rw [e]
theorem dsFrom_le {c : Cd} (hlen : ∀ w ∈ c.2.1, w.length = sz c) : ∀ x ∈ dsFrom c.2.1 0 c.2.1, x ≤ sz c := fun x hx => by
  simp only [dsFrom, dsOf, List.mem_flatMap, List.mem_map] at hx
  obtain ⟨⟨w, i⟩, hp, y, _, rfl⟩ := hx
  have hw : w ∈ c.2.1 := List.fst_mem_of_mem_zipIdx hp
  have := (apF_le y w 0 0).2
  rw [hlen w hw] at this
  have h3 : apF y 0 w 0 ≤ (sz c : Int) := by omega
  exact h3
theorem dsFrom_ne {ws : List (List Int)} (h : 2 ≤ ws.length) : dsFrom ws 0 ws ≠ [] := by
  match ws, h with
  | a :: b :: r, _ =>
    rw [dsFrom_cons, dsFrom_cons]
    simp [dsOf]
/-- The reference begins with the largest distance that there may be. -/
theorem KB17 : FnOk Tryd.prog 17 (F17 B16) := ok17 B22 B53 KB23 KB54 B16 fun c r h => ⟨1001, by
  simp only [B16] at h
  split at h
  · rename_i hs
    obtain ⟨h1, h2⟩ := smB_at hs
    rw [← h, m17, B22, if_pos hs, Option.bind_some]
    simp only [beqDec, bneDec]
    cases e : decide (cdE c = 0) with
    | false => rfl
    | true =>
      obtain ⟨_, hn, hz, hw, _⟩ := cdE_ok (of_decide_eq_true e)
      simp only [Bool.not_true, cond_false, cond_true]
      rw [show decide ((c.2.1.length : Int) = 1) = decide (c.2.1.length = 1) from decide_eq_decide.2 (by omega)]
      cases e1 : decide (c.2.1.length = 1) with
      | true => rfl
      | false =>
        have h1' := of_decide_eq_false e1
        have hmin : minF (sz c) (dsFrom c.2.1 0 c.2.1) = minF 8 (dsFrom c.2.1 0 c.2.1) := minF_eq (fun x hx => by have := dsFrom_le hw x hx; omega) (dsFrom_ne (by omega))
        rw [cond_false, cond_false, hmin]
        refine (rangeIx c.2.1 [] (fun n s t => l17a B22 B53 1001 c n s t) (fun t rest _ => rest = c.2.1.drop t) (fun t xs s => some (minF s (dsFrom c.2.1 t xs), 0)) (fun n s t x rest ht hx hI ih => ?_)
          (fun n s hI => by simp only [l17a, ixE, cond_false]; rfl) 1001 8 (by omega) rfl).trans rfl
        have hxw : x ∈ c.2.1 := hx ▸ getD_mem ht
        have htk : (c.2.1.take t).length = t := by simp; omega
        have hrest : rest = c.2.1.drop (t + 1) := by
          have := congrArg List.tail hI
          rwa [List.tail_cons, List.tail_drop] at this
        simp only [l17a, ixA ht, cond_true, dsFrom_cons, minF, List.foldl_append]
        refine (rangeInv (c.2.1.take t) [] (fun n' s k => l17b B22 B53 1001 c (t : Int) (fun y0 y1 => l17a B22 B53 1001 c n y0 y1) n' s k) (fun ys _ => ∀ y ∈ ys, y.length = sz c)
          (fun ys s => l17a B22 B53 1001 c n ((dsOf x ys).foldl imin s) ((t + 1 : Nat) : Int)) (fun n' s k y ys hk hy hI' ih' => ?_) (fun n' s _ => ?_) 1001 s (by omega) (fun y hy => hw y (List.mem_of_mem_take hy))).trans
          (ih _ hrest)
        · rw [htk] at hk
          have hkc : k < c.2.1.length := by omega
          have hy' : c.2.1.getD k [] = y := by
            rw [← hy, List.getD_eq_getElem?_getD, List.getD_eq_getElem?_getD, List.getElem?_take_of_lt hk]
          have e53 : B53 x y = some (ap x y) := if_pos ⟨h2 x hxw, by rw [hI' y (by simp), hw x hxw]; exact Nat.le_refl _⟩
          simp only [l17b, Int.toNat_natCast, ixA hk, ixB ht, ixB hkc, cond_true, chk_true, hx, hy', e53, Option.bind_some, ixW hkc (by omega), ih' _ (fun y' hy' => hI' y' (by simp [hy'])), dsOf, List.map_cons, List.foldl_cons]
        · rw [htk]
          simp only [l17b, ixE, cond_false, dsOf, List.map_nil, List.foldl_nil, ixW ht (by omega)]
  · cases h⟩

theorem KB57 : FnOk Tryd.prog 57 (F57 B55) := ok57 B65 KB65 B55 fun c l r h => ⟨1001, by
  simp only [B55] at h
  split at h
  · rename_i hl
    rw [← h, m57, lenEq0, coE]
    cases decide (l.length = 0) with
    | true => rfl
    | false =>
      simp only [cond_false]
      exact rangeIx l 0 (fun n (_ : Unit) t => l57a B65 1001 c l n t) (fun _ _ _ => True) (fun t xs _ => some (mE ((c.2.1.length : Int) - 1) (if t = 0 then -1 else l.getD (t - 1) 0) xs))
        (fun n s t x rest ht hx _ ih => by
          have ih' := ih () trivial
          rw [if_neg (Nat.succ_ne_zero t), Nat.add_sub_cancel, hx] at ih'
          simp only [l57a, ixA ht, ixB ht, cond_true, chk_true, Int.toNat_natCast, ixW ht (by omega), hx, ih', B65, Option.bind_some, mE]
          rw [w64_small (x := (c.2.1.length : Int) - 1) (by omega)]
          cases eb : decide (0 ≤ x ∧ x ≤ (c.2.1.length : Int) - 1) with
          | false => rfl
          | true =>
            have := of_decide_eq_true eb
            simp only [Bool.not_true, cond_false, cond_true]
            by_cases h0 : t = 0
            · subst h0
              rw [if_pos rfl, decide_eq_false (show ¬ x ≤ -1 by omega)]
              rfl
            · rw [if_neg h0, decide_eq_true (show ((t : Nat) : Int) > 0 by omega), cond_true, w64_small (x := (t : Int) - 1) (by omega), chk_dec (by omega), show ((t : Int) - 1).toNat = t - 1 by omega]
              cases decide (x ≤ l.getD (t - 1) 0) <;> rfl)
        (fun n s _ => by simp only [l57a, ixE, cond_false]; rfl) 1001 () (by omega) trivial
  · cases h⟩

theorem KB60 : FnOk Tryd.prog 60 (F60 B58) := ok60 B65 KB65 B58 fun c w r h => ⟨1001, by
  simp only [B58] at h
  split at h
  · rename_i hl
    rw [← h, m60, chk_dec (show 0 ≤ (0 : Int) ∧ (0 : Int) < (c.2.1.length : Int) by omega), wE]
    rw [show ((w.length : Int) != ((c.2.1.getD 0 []).length : Int)) = !decide (w.length = sz c) from lenNe _ _]
    cases decide (w.length = sz c) with
    | false => rfl
    | true =>
      rw [Bool.not_true, cond_false, cond_true]
      exact rangeInd w 0 (fun n (_ : Unit) t => l60a B65 1001 c w n t) (fun xs _ => some (cond (xs.any (outM c.1)) 4 0))
        (fun n s t x rest ht hx ih => by
          simp only [l60a, ixA ht, ixB ht, cond_true, chk_true, Int.toNat_natCast, ixW ht (by omega), hx, ih (), B65, Option.bind_some]
          show cond (outM c.1 x) _ _ = _
          rw [List.any_cons]
          cases outM c.1 x <;> rfl)
        (fun n s => by simp only [l60a, ixE, cond_false]; rfl) 1001 () (by omega)
  · cases h⟩

theorem mk_from {c : Cd} {l w : List Int} : mk c l w = (List.range' 0 w.length).all fun k => l.any fun i => decide ((c.2.1.getD i.toNat []).getD k 0 = w.getD k 0) := by
  rw [mk, List.range_eq_range']
theorem KB61 : FnOk Tryd.prog 61 (F61 B59) := ok61 B59 fun c l w r h => ⟨1001, by
  simp only [B59] at h
  split at h
  · rename_i ho
    obtain ⟨hc, hL, hl, hw⟩ := okC_at ho
    obtain ⟨hm, hn, hz, hlen, hb⟩ := cdE_ok hc
    obtain ⟨w1, w2⟩ := wE_ok hw hc
    have hin := okCo_at hL
    rw [← h, m61, mk_from]
    refine (rangeIx w 0 (fun n (_ : Unit) t => l61a 1001 c l w n t) (fun t xs _ => xs.length = w.length - t) (fun t xs _ => some ((List.range' t xs.length).all fun k => l.any fun i => decide ((c.2.1.getD i.toNat []).getD k 0 = w.getD k 0))) (fun n _ t x rest ht hx hI ih => ?_)
      (fun n _ _ => by simp only [l61a, ixE, cond_false]; rfl) 1001 () (by omega) (by simp)).trans rfl
    simp only [l61a, ixA ht, cond_true, List.length_cons, List.range'_succ, List.all_cons]
    have inner := rangeInv l 0 (fun n' (s : Bool) k => l61b 1001 c l w (t : Int) (fun y0 => l61a 1001 c l w n y0) n' s k) (fun ys _ => ∀ i ∈ ys, 0 ≤ i ∧ i < (c.2.1.length : Int))
      (fun ys s => cond (s || ys.any fun i => decide ((c.2.1.getD i.toNat []).getD t 0 = w.getD t 0)) (l61a 1001 c l w n ((t + 1 : Nat) : Int)) (some false))
      (fun n' s k y ys hk hy hI' ih' => by
        have hyi := hI' y (by simp)
        have hyw : c.2.1.getD y.toNat [] ∈ c.2.1 := getD_mem (by omega)
        have htl : t < (c.2.1.getD y.toNat []).length := by rw [hlen _ hyw]; omega
        cases s with
        | true => simp only [l61b, ixA hk, cond_true, ixW hk (by omega), ih' true (fun i hi => hI' i (by simp [hi])), Bool.true_or]
        | false =>
          simp only [l61b, ixA hk, ixB hk, cond_true, cond_false, chk_true, Int.toNat_natCast, hy, chk_dec hyi, ixB htl, ixB ht, ixW hk (by omega), beqDec, ih' _ (fun i hi => hI' i (by simp [hi])), Bool.false_or, List.any_cons])
      (fun n' s _ => by
        simp only [l61b, ixE, cond_false, ixW ht (by omega), List.any_nil, Bool.or_false]
        cases s <;> rfl) 1001 false (by omega) hin
    refine inner.trans ?_
    rw [Bool.false_or, ih () (by simp only [List.length_cons] at hI; omega)]
    cases l.any fun i => decide ((c.2.1.getD i.toNat []).getD t 0 = w.getD t 0) <;> rfl
  · cases h⟩

theorem KB21 : FnOk Tryd.prog 21 (F21 B20) := ok21 B22 B55 B58 B59 KB23 KB57 KB60 KB61 B20 fun c l w r h => ⟨0, by
  simp only [B20] at h
  split at h
  · rename_i hs
    obtain ⟨h1, h2, h3⟩ := hs
    rw [← h, m21, B22, if_pos h1, Option.bind_some]
    simp only [beqDec, maE]
    cases e : decide (cdE c = 0) with
    | false => rfl
    | true =>
      have hc := of_decide_eq_true e
      obtain ⟨_, hn, _⟩ := cdE_ok hc
      have e55 : B55 c l = some (coE c l) := if_pos ⟨h2, by omega⟩
      simp only [cond_true, e55, Option.bind_some]
      cases e2 : decide (coE c l = 0) with
      | false => rfl
      | true =>
        have e58 : B58 c w = some (wE c w) := if_pos ⟨hn.1, h3⟩
        simp only [cond_true, e58, Option.bind_some]
        cases e3 : decide (wE c w = 0) with
        | false => rfl
        | true =>
          have e59 : B59 c l w = some (mk c l w) := if_pos (okC_of hc (of_decide_eq_true e2) (of_decide_eq_true e3) h2)
          simp only [cond_true, e59, Option.bind_some]
          cases mk c l w with
          | false => rfl
          | true => simp only [Bool.not_true, cond_false, cond_true, of_decide_eq_true e3]
  · cases h⟩

/-! ### how many copies, mark by mark -/
def hasM (c : Cd) (l : List Int) (k : Nat) (m : Int) : Bool := l.any fun i => decide ((c.2.1.getD i.toNat []).getD k 0 = m)
def cntF (p : Int → Bool) : Nat → Int → Int
  | 0, _ => 0
  | n + 1, m => cond (p m) (cntF p n (m + 1) + 1) (cntF p n (m + 1))
theorem cntF_le (p : Int → Bool) : ∀ (n : Nat) (m : Int), 0 ≤ cntF p n m ∧ cntF p n m ≤ n
  | 0, m => by simp [cntF]
  | n + 1, m => by
    have := cntF_le p n (m + 1)
    simp only [cntF]
    cases p m <;> simp only [cond_true, cond_false] <;> omega
/-- Marks that the reference counts. -/
def cpR (c : Cd) (l : List Int) (k : Nat) : Int := cntF (hasM c l k) c.1.toNat 0
theorem prF_congr {f g : Nat → Int} : ∀ (n t : Nat) (s : Int), (∀ k, t ≤ k → k < t + n → f k = g k) → prF f t n s = prF g t n s
  | 0, t, s, _ => rfl
  | n + 1, t, s, h => by rw [prF_succ, prF_succ, h t (Nat.le_refl _) (by omega), prF_congr n (t + 1) _ fun k h1 h2 => h k (by omega) (by omega)]
theorem prF_add (f : Nat → Int) : ∀ (a b t : Nat) (s : Int), prF f t (a + b) s = prF f (t + a) b (prF f t a s)
  | 0, b, t, s => by simp [prF_zero]
  | a + 1, b, t, s => by rw [show a + 1 + b = (a + b) + 1 by omega, prF_succ, prF_add f a b (t + 1), prF_succ, show t + 1 + a = t + (a + 1) by omega]
theorem prF_one {f : Nat → Int} : ∀ (n t : Nat) (s : Int), (∀ k, t ≤ k → k < t + n → f k = 1) → prF f t n s = s
  | 0, t, s, _ => rfl
  | n + 1, t, s, h => by rw [prF_succ, h t (Nat.le_refl _) (by omega), Int.mul_one, prF_one n (t + 1) s fun k h1 h2 => h k (by omega) (by omega)]
theorem pcN_eq (n : Nat) : (pcN n : Int) = cntF (fun m => n.testBit m.toNat) 4 0 := by
  simp only [pcN, show List.range 4 = [0, 1, 2, 3] from rfl, cntF, List.filter_cons, List.filter_nil, show Int.toNat 0 = 0 from rfl, show Int.toNat (0 + 1) = 1 from rfl, show Int.toNat (0 + 1 + 1) = 2 from rfl, show Int.toNat (0 + 1 + 1 + 1) = 3 from rfl]
  cases n.testBit 0 <;> cases n.testBit 1 <;> cases n.testBit 2 <;> cases n.testBit 3 <;> rfl
theorem cntF_cut {p q : Int → Bool} : ∀ (a b : Nat) (m : Int), (∀ x, m ≤ x → x < m + a → p x = q x) → (∀ x, m + a ≤ x → p x = false) → cntF p (a + b) m = cntF q a m
  | 0, 0, m, _, _ => rfl
  | 0, b + 1, m, h1, h2 => by
    show cond (p m) (cntF p (0 + b) (m + 1) + 1) (cntF p (0 + b) (m + 1)) = 0
    rw [h2 m (by omega), cond_false]
    exact cntF_cut (q := q) 0 b (m + 1) (fun x hx hx' => by omega) fun x hx => h2 x (by omega)
  | a + 1, b, m, h1, h2 => by
    rw [show a + 1 + b = (a + b) + 1 by omega, cntF, cntF, h1 m (by omega) (by omega), cntF_cut (q := q) a b (m + 1) (fun x hx hx' => h1 x (by omega) (by omega)) fun x hx => h2 x (by omega)]
theorem cp_eq {c : Cd} {l : List Int} (hc : cdE c = 0) (hco : coE c l = 0) : cpN c l = prF (cpR c l) 0 (sz c) 1 := by
  obtain ⟨hm, hn, hz, hlen, hb⟩ := cdE_ok hc
  obtain ⟨hne, hin0, _⟩ := coE_ok hco
  have hin : ∀ i ∈ l, 0 ≤ i ∧ i < (c.2.1.length : Int) := fun i hi => by have := hin0 i hi; omega
  unfold cpN
  rw [show (8 : Nat) = sz c + (8 - sz c) by omega, prF_add, prF_one (8 - sz c) (0 + sz c) _ fun k h1 h2 => ?_]
  · refine prF_congr (sz c) 0 1 fun k h1 h2 => ?_
    have hk : ∀ w ∈ c.2.1, k < w.length := fun w hw => by rw [hlen w hw]; omega
    have hbit : ∀ j : Nat, (mkN c l k).testBit j = hasM c l k j := fun j => mkN_bit hk (fun w hw m hmm => (hb w hw m hmm).1) hin
    have e1 : (pcN (mkN c l k) : Int) = cpR c l k := by
      rw [pcN_eq, cpR, show (4 : Nat) = c.1.toNat + (4 - c.1.toNat) by omega]
      refine cntF_cut _ _ 0 (fun x h0 hx => ?_) fun x hx => ?_
      · rw [hbit, show ((x.toNat : Nat) : Int) = x by omega]
      · rw [hbit, show ((x.toNat : Nat) : Int) = x by omega]
        refine List.any_eq_false.2 fun i hi => ?_
        have hi' := hin i hi
        have hw : c.2.1.getD i.toNat [] ∈ c.2.1 := getD_mem (by omega)
        have := hb _ hw ((c.2.1.getD i.toNat []).getD k 0) (getD_mem (hk _ hw))
        simp only [decide_eq_true_eq]; omega
    have pos : 1 ≤ (pcN (mkN c l k) : Int) := by
      match l, hne with
      | i :: r, _ =>
        have hi' := hin i (by simp)
        have hw : c.2.1.getD i.toNat [] ∈ c.2.1 := getD_mem (by omega)
        have hv := hb _ hw ((c.2.1.getD i.toNat []).getD k 0) (getD_mem (hk _ hw))
        have hbv : (mkN c (i :: r) k).testBit ((c.2.1.getD i.toNat []).getD k 0).toNat = true := by
          rw [hbit, hasM, List.any_cons, decide_eq_true (by omega), Bool.true_or]
        have : 0 < ((List.range 4).filter fun j => (mkN c (i :: r) k).testBit j).length := List.length_pos_of_mem (List.mem_filter.2 ⟨List.mem_range.2 (by omega), hbv⟩)
        unfold pcN; omega
    unfold cpK imax
    rw [← e1]
    split <;> omega
  · rw [cpK, mkN_none (fun w hw => by rw [hlen w hw]; omega) hin]; rfl
theorem cpR_le {c : Cd} (hc : cdE c = 0) (l : List Int) (k : Nat) : 0 ≤ cpR c l k ∧ cpR c l k ≤ 4 := by
  have := cntF_le (hasM c l k) c.1.toNat 0
  have := (cdE_ok hc).1
  unfold cpR; omega
theorem KB19 : FnOk Tryd.prog 19 (F19 B18) := ok19 B22 B55 KB23 KB57 B18 fun c l r h => ⟨1001, by
  simp only [B18] at h
  split at h
  · rename_i hs
    obtain ⟨h1, h2⟩ := hs
    rw [← h, m19, B22, if_pos h1, Option.bind_some]
    simp only [beqDec, bneDec]
    cases e : decide (cdE c = 0) with
    | false => rfl
    | true =>
      have hc := of_decide_eq_true e
      obtain ⟨hm, hn, hz, hlen, hb⟩ := cdE_ok hc
      have e55 : B55 c l = some (coE c l) := if_pos ⟨h2, by omega⟩
      simp only [cond_true, e55, Option.bind_some]
      cases e2 : decide (coE c l = 0) with
      | false => rfl
      | true =>
        have hin : ∀ i ∈ l, 0 ≤ i ∧ i < (c.2.1.length : Int) := fun i hi => by have := (coE_ok (of_decide_eq_true e2)).2.1 i hi; omega
        rw [Bool.not_true, cond_false, cond_true, cp_eq hc (of_decide_eq_true e2)]
        have hz' : (((c.2.1.getD 0 []).length : Nat) : Int) = (sz c : Int) := rfl
        refine (countUp 0 (sz c) (by omega) (fun n s t => l19a B22 B55 1001 c l n s t) (fun t s => 0 ≤ s ∧ s ≤ 4 ^ t.toNat) (fun t s => some (prF (cpR c l) t.toNat (sz c - t.toNat) s, 0))
          (fun n s t h0 ht hI ih => ?_) (fun n s hI => ?_) 1001 1 (by omega) ⟨by decide, Int.le_refl _⟩).trans (by simp)
        · obtain ⟨k, rfl⟩ : ∃ j : Nat, t = j := ⟨t.toNat, by omega⟩
          have hk : k < sz c := by omega
          obtain ⟨c1, c2⟩ := cpR_le hc l k
          have hp := pow4 k (by omega)
          rw [Int.toNat_natCast] at hI
          have hmul : s * cpR c l k ≤ 4 ^ k * 4 := Int.mul_le_mul hI.2 c2 (by omega) (by omega)
          have hmul1 : 0 ≤ s * cpR c l k := Int.mul_nonneg hI.1 c1
          simp only [l19a, chk_dec (show 0 ≤ (0 : Int) ∧ (0 : Int) < (c.2.1.length : Int) by omega), hz', decide_eq_true ht, cond_true]
          refine (countUp 0 c.1 (by omega) (fun n' q m => l19b B22 B55 1001 c l s (k : Int) (fun y0 y1 => l19a B22 B55 1001 c l n y0 y1) n' q m) (fun m q => 0 ≤ q ∧ q ≤ m) (fun m q => l19a B22 B55 1001 c l n (s * (q + cntF (hasM c l k) (c.1 - m).toNat m)) ((k : Int) + 1))
            (fun n' q m hm0 hm1 hI' ih' => ?_) (fun n' q hI' => ?_) 1001 0 (by omega) ⟨Int.le_refl _, Int.le_refl _⟩).trans ?_
          · simp only [l19b, decide_eq_true hm1, cond_true]
            refine (rangeInv l 0 (fun n2 (f : Bool) i => l19c B22 B55 1001 c l s (k : Int) q m (fun y0 y1 => l19b B22 B55 1001 c l s (k : Int) (fun y0 y1 => l19a B22 B55 1001 c l n y0 y1) n' y0 y1) n2 f i) (fun ys _ => ∀ i ∈ ys, 0 ≤ i ∧ i < (c.2.1.length : Int))
              (fun ys f => cond (f || ys.any fun i => decide ((c.2.1.getD i.toNat []).getD k 0 = m)) (l19b B22 B55 1001 c l s (k : Int) (fun y0 y1 => l19a B22 B55 1001 c l n y0 y1) n' (q + 1) (m + 1)) (l19b B22 B55 1001 c l s (k : Int) (fun y0 y1 => l19a B22 B55 1001 c l n y0 y1) n' q (m + 1)))
              (fun n2 f j y ys hj hy hI2 ih2 => ?_) (fun n2 f _ => ?_) 1001 false (by omega) hin).trans ?_
            · have hyi := hI2 y (by simp)
              have hyw : c.2.1.getD y.toNat [] ∈ c.2.1 := getD_mem (by omega)
              have htl : k < (c.2.1.getD y.toNat []).length := by rw [hlen _ hyw]; omega
              cases f with
              | true => simp only [l19c, ixA hj, cond_true, ixW hj (by omega), ih2 true (fun i hi => hI2 i (by simp [hi])), Bool.true_or]
              | false => simp only [l19c, ixA hj, ixB hj, cond_true, cond_false, chk_true, Int.toNat_natCast, hy, chk_dec hyi, ixB htl, ixW hj (by omega), beqDec, ih2 _ (fun i hi => hI2 i (by simp [hi])), Bool.false_or, List.any_cons]
            · simp only [l19c, ixE, cond_false, List.any_nil, Bool.or_false]
              rw [w64_small (x := q + 1) (by omega), w64_small (x := m + 1) (by omega)]
            · rw [Bool.false_or, show (c.1 - m).toNat = (c.1 - (m + 1)).toNat + 1 by omega, cntF]
              show cond (hasM c l k m) _ _ = _
              cases hasM c l k m with
              | true => rw [cond_true, cond_true, ih' (q + 1) (by omega), show q + 1 + cntF (hasM c l k) (c.1 - (m + 1)).toNat (m + 1) = q + (cntF (hasM c l k) (c.1 - (m + 1)).toNat (m + 1) + 1) by omega]
              | false => rw [cond_false, cond_false, ih' q (by omega)]
          · simp only [l19b, decide_eq_false (Int.lt_irrefl c.1), cond_false]
            have hq : s * q ≤ 65536 * 4 := Int.mul_le_mul (by omega) (by omega) hI'.1 (by omega)
            have hq1 : 0 ≤ s * q := Int.mul_nonneg hI.1 hI'.1
            rw [w64_small (x := s * q) (by omega), w64_small (x := (k : Int) + 1) (by omega), Int.sub_self]
            show _ = l19a B22 B55 1001 c l n (s * (q + 0)) ((k : Int) + 1)
            rw [Int.add_zero]
          · rw [Int.zero_add, Int.sub_zero]
            show l19a B22 B55 1001 c l n (s * cpR c l k) ((k : Int) + 1) = _
            rw [ih _ ⟨hmul1, by rw [show ((k : Int) + 1).toNat = k + 1 by omega, Int.pow_succ]; exact hmul⟩, show ((k : Int) + 1).toNat = k + 1 by omega, Int.toNat_natCast, show sz c - k = (sz c - (k + 1)) + 1 by omega, prF_succ]
        · simp only [l19a, chk_dec (show 0 ≤ (0 : Int) ∧ (0 : Int) < (c.2.1.length : Int) by omega), hz', decide_eq_false (Int.lt_irrefl _), cond_false, Int.toNat_natCast, Nat.sub_self, prF_zero]
  · cases h⟩

end Go.Proofs.YtbjfbbfglkmadaaDoor
