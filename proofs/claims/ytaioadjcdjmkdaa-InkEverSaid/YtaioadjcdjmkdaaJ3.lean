/-
  What the laws without the reference need.
-/
import Derived.Test.YtaioadjcdjmkdaaJ2
namespace Go.Proofs.Ytaioadjcdjmkdaa
open Go.RowKit
set_option linter.unusedVariables false

def okS (p : Pal) (l : List Int) : Bool := decide (ck p = 0) && decide (l.length ≤ 1000) && !l.any (outP (p.2.1.length : Int))
theorem okS_ok {p : Pal} {l : List Int} : okS p l = true ↔ PalOk p ∧ l.length ≤ 1000 ∧ SeqOk p l := by
  simp only [okS, Bool.and_eq_true, decide_eq_true_eq, Bool.not_eq_true', ck_ok]
  constructor
  · rintro ⟨⟨h1, h2⟩, h3⟩; exact ⟨h1, h2, (any_out (by have := h1.i6; omega)).1 h3⟩
  · rintro ⟨h1, h2, h3⟩; exact ⟨⟨h1, h2⟩, (any_out (by have := h1.i6; omega)).2 h3⟩
def B56 (p : Pal) (l : List Int) : Option Int := if okS p l then some (givI p l : Int) else none
theorem nat7 {p : Pal} (h : PalOk p) : 2 ≤ p.1.toNat ∧ p.1.toNat ≤ 7 ∧ p.1 = (p.1.toNat : Int) := by have := h.n2; have := h.n7; omega
theorem KB56 : FnOk Try.prog 56 (F56 B56) := ok56 B61 B68 KB61 KB68 B56 fun p l r h => ⟨1001, by
  simp only [B56] at h
  split at h
  · rename_i hf
    obtain ⟨hp, hl, hs⟩ := okS_ok.1 hf
    obtain ⟨n2, n7, _⟩ := nat7 hp
    rw [← h, m56]
    have main := rangeInv l 0 (fun n (s : Nat) t => l56a B61 B68 1001 p l n (s : Int) t) (fun xs s => SeqOk p xs ∧ 0 < s ∧ s < 2 ^ p.1.toNat) (fun xs s => some ((xs.foldl (fun s i => addI (p.2.1.getD i.toNat []) s) s : Nat) : Int))
      (fun n s t x rest ht hx hI ih => by
        have hx1 := hI.1 x (List.mem_cons_self ..)
        have hk := hp.at hx1
        obtain ⟨a, b⟩ := addI_lt hk hI.2.2
        simp only [l56a, ixA ht, ixB ht, cond_true, chk_true, Int.toNat_natCast, ixW ht (by omega), hx, hp.B61 hx1, Option.bind_some, print_ok hk ⟨n2, n7⟩ hI.2.1 hI.2.2]
        rw [ih _ ⟨fun y hy => hI.1 y (by simp [hy]), Nat.lt_of_lt_of_le hI.2.1 b, a⟩, List.foldl_cons])
      (fun n s _ => by simp only [l56a, ixE, cond_false]; rfl) 1001 1 (by omega) ⟨hs, by decide, Nat.one_lt_two_pow (by omega)⟩
    rw [show ((1 : Nat) : Int) = 1 from rfl] at main
    rw [givI]
    exact main
  · cases h⟩
def B73 (p : Pal) (s i : Int) : Option Int := if ck p = 0 ∧ 0 ≤ i ∧ i < (p.2.1.length : Int) ∧ 0 ≤ s ∧ s < 2 ^ p.1.toNat then some (addI (p.2.1.getD i.toNat []) s.toNat : Int) else none
def B59 (s : Int) : Option (List Int) := if 0 ≤ s ∧ s < 256 then some (colsI s.toNat) else none
def gvI (p : Pal) (l : List Int) : List Int × Int := if sqE p l 12 = 0 then (colsI (givI p l), 0) else ([], sqE p l 12)
def B17 (p : Pal) (l : List Int) : Option (List Int × Int) := if fitP p = true ∧ l.length ≤ 1000 then some (gvI p l) else none
theorem gv_ok {p : Pal} {l : List Int} (hf : fitP p = true ∧ l.length ≤ 1000) (f : Option (List Int × Int)) (h : PalOk p → SeqOk p l → f = some (colsI (givI p l), 0)) :
    ((B55 p l 12).bind fun r1 => cond (r1 != 0) (some ([], r1)) f) = some (gvI p l) := by
  rw [B55, if_pos hf, Option.bind_some, gvI]
  by_cases e : sqE p l 12 = 0
  · obtain ⟨a, b, c⟩ := sq_ok.1 e
    have : (sqE p l 12 != 0) = false := by rw [bne_eq_false_iff_eq]; exact e
    rw [this, cond_false, if_pos e]; exact h a c
  · have : (sqE p l 12 != 0) = true := by rw [bne_iff_ne]; exact e
    rw [this, cond_true, if_neg e]
theorem giv_cols {p : Pal} (h : PalOk p) {l : List Int} (hl : SeqOk p l) : 0 ≤ (givI p l : Int) ∧ (givI p l : Int) < 256 := by
  have := (giv_lt h hl).2
  have := pow_le7 (nat7 h).2.1
  omega
theorem KB17 : FnOk Try.prog 17 (F17 B17) := ok17 B55 B56 B57 KB55 KB56 KB57 B17 fun p l r h => ⟨0, by
  simp only [B17] at h
  split at h
  · rename_i hf
    rw [← h, m17]
    refine gv_ok hf _ fun a c => ?_
    rw [B56, if_pos (okS_ok.2 ⟨a, hf.2, c⟩), Option.bind_some, B57, if_pos (giv_cols a c)]; rfl
  · cases h⟩
/-! ### colours of choices -/
def clI (p : Pal) : List Int → List Bool → Int → Int
  | i :: l, b :: ch, c => clI p l ch (cond b ((p.2.1.getD i.toNat []).getD c.toNat 0) c)
  | _, _, c => c
def coI (p : Pal) (l : List Int) (ch : List Bool) : Int × Int := if sqE p l 12 = 0 then (if ch.length = l.length then (clI p l ch 0, 0) else (0, 3)) else (0, sqE p l 12)
def B19 (p : Pal) (l : List Int) (ch : List Bool) : Option (Int × Int) := if fitP p = true ∧ l.length ≤ 1000 then some (coI p l ch) else none
theorem drop_at {α : Type} {l : List α} {t : Nat} {d : α} (h : t < l.length) : l.drop t = l.getD t d :: l.drop (t + 1) := by
  rw [List.drop_eq_getElem_cons h, List.getD_eq_getElem?_getD, List.getElem?_eq_getElem h]; rfl
theorem kd_over {n : Nat} {l : List Int} (h : InkOk n l) {c : Int} (hc : 0 ≤ c ∧ c < (n : Int)) {α : Type} (f : Int → Option α) :
    (ifElim (kd l) (fun h3 => (some h3).bind fun r5 => f r5) fun g4 => ifElim g4 (fun h6 => (B127 h6 c).bind fun r8 => f r8) fun g7 => none) = f (l.getD c.toNat 0) := by
  rw [kd]
  by_cases e : mx l = mn l
  · have e' : (mx l == mn l) = true := by rw [beq_iff_eq]; exact e
    rw [e', cond_true]
    show f (l.getD 0 0) = _
    rw [flat_of_mx e c.toNat (by rw [h.1]; omega)]
  · have e' : (mx l == mn l) = false := by rw [beq_eq_false_iff_ne]; exact e
    rw [e', cond_false]
    show ((B127 l c).bind fun r8 => f r8) = _
    rw [B127, if_pos ⟨hc.1, by rw [h.1]; exact hc.2⟩]; rfl
theorem KB19 : FnOk Try.prog 19 (F19 B19) := ok19 B127 B55 B61 (fun o _ => some o) KB127 KB55 KB61 KB87 B19 fun p l ch r h => ⟨1001, by
  simp only [B19] at h
  split at h
  · rename_i hf
    rw [← h, m19, B55, if_pos hf, Option.bind_some, coI]
    by_cases e : sqE p l 12 = 0
    · obtain ⟨hp, b, hs⟩ := sq_ok.1 e
      have e' : (sqE p l 12 != 0) = false := by rw [bne_eq_false_iff_eq]; exact e
      rw [e', cond_false, if_pos e]
      by_cases e2 : ch.length = l.length
      · have e2' : ((ch.length : Int) != (l.length : Int)) = false := by rw [bne_eq_false_iff_eq]; omega
        rw [e2', cond_false, if_pos e2]
        have main := rangeIx l 0 (fun n (c : Int) t => l19a B127 B55 B61 (fun o _ => some o) 1001 p l ch n c t) (fun t xs c => SeqOk p xs ∧ 0 ≤ c ∧ c < (p.1.toNat : Int)) (fun t xs c => some (clI p xs (ch.drop t) c, 0))
          (fun n c t x rest ht hx hI ih => by
            have hx1 := hI.1 x (List.mem_cons_self ..)
            have hk := hp.at hx1
            have hc := hI.2
            have hke := hk.at (c := c.toNat) (by omega)
            have hr : SeqOk p rest := fun y hy => hI.1 y (by simp [hy])
            simp only [l19a, ixA ht, ixB ht, ixB (show t < ch.length by omega), cond_true, chk_true, Int.toNat_natCast, ixW ht (by omega), hx, hp.B61 hx1, Option.bind_some]
            rw [drop_at (d := false) (show t < ch.length by omega), clI]
            cases ch.getD t false with
            | true =>
              rw [cond_true, cond_true]
              refine (kd_over hk hc fun r5 => l19a B127 B55 B61 (fun o _ => some o) 1001 p l ch n r5 ((t + 1 : Nat) : Int)).trans ?_
              exact ih _ ⟨hr, hke⟩
            | false => rw [cond_false, cond_false, ih _ ⟨hr, hc⟩])
          (fun n c _ => by simp only [l19a, ixE, cond_false]; cases ch.drop l.length <;> rfl) 1001 0 (by omega) ⟨hs, by omega, by have := hp.n2; omega⟩
        rw [main, List.drop_zero]
      · have e2' : ((ch.length : Int) != (l.length : Int)) = true := by rw [bne_iff_ne]; omega
        rw [e2', cond_true, if_neg e2]
    · have e' : (sqE p l 12 != 0) = true := by rw [bne_iff_ne]; exact e
      rw [e', cond_true, if_neg e]
  · cases h⟩
/-! ### spare stones -/
def B84 (n : Int) : Option (List Int) := if 0 ≤ n ∧ n ≤ 1000 then some [] else none
theorem KB84c : FnOk Try.prog 84 (F84c B84) := ok84c B84 fun n r h => ⟨0, by
  simp only [B84] at h
  split at h
  · rename_i hl
    have e0 : w64 (n - 0) = n := by rw [Int.sub_zero]; exact w64_small (by omega)
    rw [← h, m84c, e0, decide_eq_false (by omega : ¬ n < 0), cond_false]
    by_cases h0 : n > 0
    · rw [decide_eq_true h0, cond_true]
      have e1 : (true && mkOk n n 8) = true := by
        simp only [mkOk, Bool.true_and, Bool.and_eq_true, decide_eq_true_eq]; omega
      rw [e1, chk_true]
      have e2 : decide (0 ≤ (0 : Int) ∧ (0 : Int) ≤ ((List.replicate n.toNat (0 : Int)).length : Int)) = true := decide_eq_true (by simp; omega)
      rw [e2, chk_true]; rfl
    · rw [decide_eq_false h0, cond_false]
  · cases h⟩
def B62 (ls : List (List Int)) : Option (List Int) := if ls.length ≤ 1000 ∧ ls.flatten.length ≤ 1000 then some ls.flatten else none
theorem KB62 : FnOk Try.prog 62 (F62 B62) := ok62 B84 KB84c B62 fun ls r h => ⟨1001, by
  simp only [B62] at h
  split at h
  · rename_i hf
    have app : l62b B84 1001 ls 1001 0 [] = some ls.flatten := by
      have := rangeInv ls [] (fun n (o : List Int) t => l62b B84 1001 ls n t o) (fun xs o => o.length + xs.flatten.length ≤ 1000) (fun xs o => some (o ++ xs.flatten))
        (fun n o t x rest ht hx hI ih => by
          rw [List.flatten_cons, List.length_append] at hI
          simp only [l62b, ixA ht, ixB ht, cond_true, chk_true, Int.toNat_natCast, ixW ht (by omega), hx, chk_of (small_of (n := o.length + x.length) (eb := 8) (by omega) (by decide))]
          rw [ih _ (by rw [List.length_append]; omega), List.flatten_cons, List.append_assoc])
        (fun n o _ => by simp [l62b]) 1001 [] (by omega) (by simpa using hf.2)
      simpa using this
    rw [← h, m62]
    exact rangeInv ls [] (fun n (o : Nat) t => l62a B84 1001 ls n (o : Int) t) (fun xs o => o + xs.flatten.length ≤ 1000) (fun xs o => some ls.flatten)
      (fun n o t x rest ht hx hI ih => by
        rw [List.flatten_cons, List.length_append] at hI
        have e : w64 ((o : Int) + (x.length : Int)) = ((o + x.length : Nat) : Int) := by rw [w64_small (by omega)]; omega
        simp only [l62a, ixA ht, ixB ht, cond_true, chk_true, Int.toNat_natCast, ixW ht (by omega), hx, e, decide_eq_false (show ¬ ((o + x.length : Nat) : Int) < 0 by omega), cond_false]
        exact ih _ (by omega))
      (fun n o hI => by
        have e : B84 (o : Int) = some [] := by rw [B84, if_pos (by simp at hI; omega)]
        simp only [l62a, ixE, cond_false, e, Option.bind_some]
        exact app) 1001 0 (by omega) (by simpa using hf.2)
  · cases h⟩
def wo (l : List Int) (i : Nat) : List Int := l.take i ++ l.drop (i + 1)
theorem wo_ok {p : Pal} {l : List Int} (h : SeqOk p l) (i : Nat) : SeqOk p (wo l i) ∧ (wo l i).length ≤ l.length := by
  refine ⟨fun x hx => ?_, by simp only [wo, List.length_append, List.length_take, List.length_drop]; omega⟩
  rcases List.mem_append.1 hx with hx | hx
  · exact h x (List.mem_of_mem_take hx)
  · exact h x (List.mem_of_mem_drop hx)
def spI (p : Pal) (l : List Int) : List Int := ((List.range l.length).filter fun i => (givI p (wo l i) : Int) == (givI p l : Int)).map fun (i : Nat) => (i : Int)
def saI (p : Pal) (l : List Int) : List Int × Int := if sqE p l 12 = 0 then (spI p l, 0) else ([], sqE p l 12)
def B21 (p : Pal) (l : List Int) : Option (List Int × Int) := if fitP p = true ∧ l.length ≤ 1000 then some (saI p l) else none
theorem sa_ok {p : Pal} {l : List Int} (hf : fitP p = true ∧ l.length ≤ 1000) (f : Option (List Int × Int)) (h : PalOk p → SeqOk p l → f = some (spI p l, 0)) :
    ((B55 p l 12).bind fun r1 => cond (r1 != 0) (some ([], r1)) f) = some (saI p l) := by
  rw [B55, if_pos hf, Option.bind_some, saI]
  by_cases e : sqE p l 12 = 0
  · obtain ⟨a, b, c⟩ := sq_ok.1 e
    have : (sqE p l 12 != 0) = false := by rw [bne_eq_false_iff_eq]; exact e
    rw [this, cond_false, if_pos e]; exact h a c
  · have : (sqE p l 12 != 0) = true := by rw [bne_iff_ne]; exact e
    rw [this, cond_true, if_neg e]
theorem sp_loop {p : Pal} {l : List Int} (hl : l.length ≤ 1000) (L : Nat → Int → List Int → Option (List Int × Int))
    (hs : ∀ n (t : Nat) (out : List Int), t < l.length → out.length ≤ 1000 → L (n + 1) (t : Int) out = cond ((givI p (wo l t) : Int) == (givI p l : Int)) (L n ((t + 1 : Nat) : Int) (out ++ [(t : Int)])) (L n ((t + 1 : Nat) : Int) out))
    (he : ∀ n (out : List Int), L (n + 1) (l.length : Int) out = some (out, 0)) : L 1001 0 [] = some (spI p l, 0) := by
  have main := rangeInv (List.range l.length) 0 (fun n (out : List Int) t => L n t out) (fun xs out => out.length + xs.length ≤ 1000) (fun xs out => some (out ++ (xs.filter fun i => (givI p (wo l i) : Int) == (givI p l : Int)).map fun (i : Nat) => (i : Int), 0))
    (fun n out t x rest ht hx hI ih => by
      obtain rfl := range_at ht hx
      simp only [List.length_range] at ht
      simp only [List.length_cons] at hI
      show L (n + 1) (x : Int) out = _
      rw [hs n x out ht (by omega), List.filter_cons]
      cases (givI p (wo l x) : Int) == (givI p l : Int) with
      | true => rw [cond_true, ih _ (by simp; omega)]; simp
      | false => rw [cond_false, ih _ (by omega)]; simp)
    (fun n out _ => by
      show L (n + 1) (((List.range l.length).length : Nat) : Int) out = _
      rw [List.length_range, he]; simp) 1001 [] (by simp only [List.length_range]; omega) (by simp; omega)
  rw [main]; rfl
theorem KB21 : FnOk Try.prog 21 (F21 B21) := ok21 B55 B56 B62 KB55 KB56 KB62 B21 fun p l r h => ⟨1001, by
  simp only [B21] at h
  split at h
  · rename_i hf
    rw [← h, m21]
    refine sa_ok hf _ fun hp hs => ?_
    refine sp_loop (p := p) hf.2 (fun n t out => l21a B55 B56 B62 1001 p l n t out) (fun n t out ht ho => ?_) (fun n out => by simp only [l21a, ixE, cond_false])
    obtain ⟨w1, w2⟩ := wo_ok hs t
    have e1 : decide (0 ≤ (t : Int) ∧ (t : Int) ≤ (l.length : Int)) = true := decide_eq_true (by omega)
    have e2 : decide (0 ≤ ((t + 1 : Nat) : Int) ∧ ((t + 1 : Nat) : Int) ≤ (l.length : Int)) = true := decide_eq_true (by omega)
    have e3 : B62 [l.take t, l.drop (t + 1)] = some (wo l t) := by
      have : [l.take t, l.drop (t + 1)].flatten = wo l t := by simp [wo]
      rw [B62, this, if_pos ⟨by simp, by omega⟩]
    simp only [l21a, ixA ht, cond_true, chk_true, ixW ht (by omega), e1, e2, Int.toNat_natCast, e3, Option.bind_some, B56, if_pos (okS_ok.2 ⟨hp, show (wo l t).length ≤ 1000 by omega, w1⟩), if_pos (okS_ok.2 ⟨hp, hf.2, hs⟩), chk_of (small_of (n := out.length + 1) (eb := 8) (by omega) (by decide))]
  · cases h⟩
/-! ### lists, sizes -/
theorem eqLoop (a b : List Int) (L : Nat → Int → Option Bool) (hl : a.length = b.length)
    (h0 : ∀ n (t : Nat), t < a.length → a.length ≤ 1000 → L (n + 1) t = cond (a.getD t 0 != b.getD t 0) (some false) (L n ((t + 1 : Nat) : Int))) (he : ∀ n, L (n + 1) a.length = some true) (h : a.length ≤ 1000) (n : Nat) (hn : a.length < n) : L n 0 = some (decide (a = b)) := by
  have := rangeIx a 0 (fun n (_ : Unit) t => L n t) (fun _ _ _ => True) (fun t xs _ => some (decide (xs = b.drop t)))
    (fun n s t x rest ht hx _ ih => by
      have hb : t < b.length := by omega
      have e : b.drop t = b.getD t 0 :: b.drop (t + 1) := drop_at hb
      show L (n + 1) t = _
      rw [h0 n t ht h, hx, ih () trivial, e]
      by_cases q : x = b.getD t 0
      · simp [q]
      · have e1 : (x != b.getD t 0) = true := by rw [bne_iff_ne]; exact q
        have e2 : decide (x :: rest = b.getD t 0 :: b.drop (t + 1)) = false := decide_eq_false fun h => q (List.cons.inj h).1
        rw [e1, e2]; rfl)
    (fun n s _ => by rw [he]; simp [hl]) n () hn trivial
  simpa using this
def Beq (a b : List Int) : Option Bool := if a.length ≤ 1000 then some (decide (a = b)) else none
theorem neq_len {a b : List Int} (h : ¬ a.length = b.length) : ((a.length : Int) != (b.length : Int)) = true ∧ decide (a = b) = false :=
  ⟨by simp only [bne_iff_ne, ne_eq]; omega, decide_eq_false fun e => h (by rw [e])⟩
theorem eq_len {a b : List Int} (h : a.length = b.length) : ((a.length : Int) != (b.length : Int)) = false := by simp [h]
theorem KB23 : FnOk Try.prog 23 (F23 Beq) := ok23 Beq fun a b r h => ⟨1001, by
  simp only [Beq] at h
  split at h
  · rename_i hl
    rw [← h, m23]
    by_cases e : a.length = b.length
    · rw [eq_len e, cond_false]
      exact eqLoop a b (l23a 1001 a b) e (fun n t ht hl => by simp only [l23a, ixA ht, ixB ht, ixB (e ▸ ht : t < b.length), cond_true, chk_true, Int.toNat_natCast, ixW ht (by omega)]) (fun n => by simp only [l23a, ixE, cond_false]) hl 1001 (by omega)
    · rw [(neq_len e).1, (neq_len e).2]; rfl
  · cases h⟩
def larI (p : Pal) : Bool := decide (p.2.1.length > 20) || p.2.1.any fun l => decide (l.length > 20)
theorem larI_fit {p : Pal} (h : larI p = false) : fitP p = true := by
  simp only [larI, Bool.or_eq_false_iff, decide_eq_false_iff_not, List.any_eq_false, decide_eq_true_eq] at h
  simp only [fitP, Bool.and_eq_true, decide_eq_true_eq, List.all_eq_true]
  exact ⟨by omega, fun l hl => by have := h.2 l hl; omega⟩
theorem colsI_len (s : Nat) : (colsI s).length ≤ 7 := by
  simp only [colsI, List.length_map, cols]; exact Nat.le_trans (List.length_filter_le _ _) (by simp)
theorem Beq_self {a : List Int} (h : a.length ≤ 1000) : Beq a a = some true := by rw [Beq, if_pos h, decide_eq_true rfl]

end Go.Proofs.Ytaioadjcdjmkdaa
