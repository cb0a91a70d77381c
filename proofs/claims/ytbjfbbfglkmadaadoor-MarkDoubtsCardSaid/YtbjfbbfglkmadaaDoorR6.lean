/-
  The reference: whether there is a doubt.
-/
import Derived.Test.YtbjfbbfglkmadaaDoorR2
import Derived.Test.YtbjfbbfglkmadaaDoorR3
import Derived.Test.YtbjfbbfglkmadaaDoorM9
import Derived.Test.YtbjfbbfglkmadaaDoorM10
import Derived.Test.YtbjfbbfglkmadaaDoorRF
namespace Go.Proofs.YtbjfbbfglkmadaaDoor
open Go.RowKit
set_option linter.unusedVariables false

theorem KB76 : FnOk Tryd.prog 76 (F76 B75) := ok76 B75 fun s v r h => ⟨1001, by
  simp only [B75] at h
  split at h
  · rename_i hl
    rw [← h, m76, ← any_mem]
    exact rangeInd s 0 (fun n (_ : Unit) t => l76a 1001 s v n t) (fun xs _ => some (xs.any fun x => v == x))
      (fun n _ t x rest ht hx ih => by
        simp only [l76a, ixA ht, ixB ht, cond_true, chk_true, Int.toNat_natCast, ixW ht (by omega), hx, ih (), List.any_cons]
        rw [show (x == v) = (v == x) from BEq.comm]
        cases (v == x) <;> rfl)
      (fun n _ => by simp only [l76a, ixE, cond_false]; rfl) 1001 () (by omega)
  · cases h⟩
def cmN (N : Nat) (ls : List (List Int)) : Bool := (List.range' 0 N).any fun x => ls.all fun l => decide ((x : Int) ∈ l)
def B79 (c : Cd) (ls : List (List Int)) : Option Bool := if c.2.1.length ≤ 1000 ∧ ls.length ≤ 1000 ∧ ∀ l ∈ ls, l.length ≤ 1000 then some (cmN c.2.1.length ls) else none
theorem KB79 : FnOk Tryd.prog 79 (F79 B79) := ok79 B75 KB76 B79 fun c ls r h => ⟨1001, by
  simp only [B79] at h
  split at h
  · rename_i hl
    obtain ⟨h1, h2, h3⟩ := hl
    rw [← h, m79]
    refine (countUp 0 (c.2.1.length : Int) (by omega) (fun n (_ : Unit) t => l79a B75 1001 c ls n t) (fun _ _ => True) (fun t _ => some ((List.range' t.toNat (c.2.1.length - t.toNat)).any fun x => ls.all fun l => decide ((x : Int) ∈ l)))
      (fun n _ t a b _ ih => ?_) (fun n _ _ => by simp only [l79a, decide_eq_false (Int.lt_irrefl _), cond_false, Int.toNat_natCast, Nat.sub_self]; rfl) 1001 () (by omega) trivial).trans rfl
    obtain ⟨k, rfl⟩ : ∃ j : Nat, t = j := ⟨t.toNat, by omega⟩
    have ih' := ih () trivial
    rw [show ((k : Int) + 1).toNat = k + 1 by omega] at ih'
    simp only [l79a, decide_eq_true b, cond_true, Int.toNat_natCast]
    rw [show c.2.1.length - k = (c.2.1.length - (k + 1)) + 1 by omega, List.range'_succ, List.any_cons]
    refine (rangeInv ls [] (fun n' (s : Bool) j => l79b B75 1001 c ls (k : Int) (fun y0 => l79a B75 1001 c ls n y0) n' s j) (fun ys _ => ∀ l ∈ ys, l.length ≤ 1000) (fun ys s => cond (s && ys.all fun l => decide ((k : Int) ∈ l)) (some true) (l79a B75 1001 c ls n ((k : Int) + 1)))
      (fun n' s j x ys hj hx hI ih2 => ?_) (fun n' s _ => ?_) 1001 true (by omega) h3).trans ?_
    · have hys : ∀ l ∈ ys, l.length ≤ 1000 := fun l hl => hI l (by simp [hl])
      simp only [l79b, ixA hj, cond_true, ixB hj, chk_true, Int.toNat_natCast, hx, B75, if_pos (hI x (by simp)), Option.bind_some, ixW hj (by omega), ih2 _ hys]
      cases s <;> simp
    · simp only [l79b, ixE, cond_false, List.all_nil, Bool.and_true]
      rw [w64_small (by omega)]
    · rw [Bool.true_and, ih']
      cases ls.all fun l => decide ((k : Int) ∈ l) <;> rfl
  · cases h⟩
theorem cm_eq {N : Nat} {ls : List (List Int)} (h0 : 0 < ls.length) (h : ∀ l ∈ ls, ∀ i ∈ l, 0 ≤ i ∧ i < (N : Int)) : cmN N ls = cm ls := by
  rw [Bool.eq_iff_iff, cmN, cm, List.any_eq_true, List.any_eq_true]
  constructor
  · rintro ⟨x, hx, hall⟩
    rw [List.all_eq_true] at hall
    refine ⟨(x : Int), of_decide_eq_true (hall _ (getD_mem h0)), List.all_eq_true.2 hall⟩
  · rintro ⟨x, hx, hall⟩
    have := h _ (getD_mem h0) x hx
    refine ⟨x.toNat, by rw [List.mem_range'_1]; omega, ?_⟩
    rw [show ((x.toNat : Nat) : Int) = x by omega]; exact hall
def hsM (c : Cd) (l : List Int) (k : Nat) (m : Int) : Bool := l.any fun i => decide ((c.2.1.getD i.toNat []).getD k 0 = m)
def plK (c : Cd) (ls : List (List Int)) (k : Nat) : Bool := (List.range' 0 c.1.toNat).any fun (m : Nat) => ls.all fun l => hsM c l k (m : Int)
def pl (c : Cd) (ls : List (List Int)) : Bool := (List.range' 0 (sz c)).all fun k => plK c ls k
def B80 (c : Cd) (ls : List (List Int)) : Option Bool := if cdE c = 0 ∧ ls.length ≤ 1000 ∧ ls.all (okS c) = true then some (pl c ls) else none
theorem KB80 : FnOk Tryd.prog 80 (F80 B80) := ok80 B80 fun c ls r h => ⟨1001, by
  simp only [B80] at h
  split at h
  · rename_i hh
    obtain ⟨hc, hl, hok⟩ := hh
    rw [List.all_eq_true] at hok
    obtain ⟨hm, hn, hz, hlen, hb⟩ := cdE_ok hc
    rw [← h, m80]
    have hsz : ((c.2.1.getD 0 []).length : Int) = (sz c : Int) := rfl
    refine (countUp 0 (sz c : Int) (by omega) (fun n (_ : Unit) t => l80a 1001 c ls n t) (fun _ _ => True) (fun t _ => some ((List.range' t.toNat (sz c - t.toNat)).all fun k => plK c ls k))
      (fun n _ t a b _ ih => ?_) (fun n _ _ => by simp only [l80a, hsz, chk_dec (show 0 ≤ (0 : Int) ∧ (0 : Int) < (c.2.1.length : Int) by omega), decide_eq_false (Int.lt_irrefl _), cond_false, Int.toNat_natCast, Nat.sub_self]; rfl) 1001 () (by omega) trivial).trans rfl
    obtain ⟨k, rfl⟩ : ∃ j : Nat, t = j := ⟨t.toNat, by omega⟩
    have hk : k < sz c := by omega
    have ih' := ih () trivial
    rw [show ((k : Int) + 1).toNat = k + 1 by omega] at ih'
    simp only [l80a, hsz, chk_dec (show 0 ≤ (0 : Int) ∧ (0 : Int) < (c.2.1.length : Int) by omega), decide_eq_true b, cond_true, Int.toNat_natCast]
    rw [show sz c - k = (sz c - (k + 1)) + 1 by omega, List.range'_succ, List.all_cons]
    refine (countUp 0 c.1 (by omega) (fun n' (s : Bool) m => l80b 1001 c ls (k : Int) (fun y0 => l80a 1001 c ls n y0) n' s m) (fun _ _ => True) (fun m s => cond (s || (List.range' m.toNat (c.1.toNat - m.toNat)).any fun (m : Nat) => ls.all fun l => hsM c l k (m : Int)) (l80a 1001 c ls n ((k : Int) + 1)) (some false))
      (fun n' s m a2 b2 _ ih2 => ?_) (fun n' s _ => ?_) 1001 false (by omega) trivial).trans ?_
    · obtain ⟨m, rfl⟩ : ∃ j : Nat, m = j := ⟨m.toNat, by omega⟩
      have ih2' := fun s => ih2 s trivial
      simp only [show ((m : Int) + 1).toNat = m + 1 by omega] at ih2'
      simp only [l80b, decide_eq_true b2, cond_true, Int.toNat_natCast]
      rw [show c.1.toNat - m = (c.1.toNat - (m + 1)) + 1 by omega, List.range'_succ, List.any_cons]
      refine (rangeInv ls [] (fun n2 (q : Bool) i => l80c 1001 c ls (k : Int) s (m : Int) (fun y0 y1 => l80b 1001 c ls (k : Int) (fun y0 => l80a 1001 c ls n y0) n' y0 y1) n2 q i) (fun ys _ => ∀ l ∈ ys, okS c l = true) (fun ys q => l80b 1001 c ls (k : Int) (fun y0 => l80a 1001 c ls n y0) n' (s || (q && ys.all fun l => hsM c l k (m : Int))) ((m : Int) + 1))
        (fun n2 q i x ys hi hx hI ih3 => ?_) (fun n2 q _ => ?_) 1001 true (by omega) hok).trans ?_
      · have hys : ∀ l ∈ ys, okS c l = true := fun l hl => hI l (by simp [hl])
        obtain ⟨x1, x2, x3⟩ := okS_at (hI x (by simp))
        simp only [l80c, ixA hi, cond_true]
        refine (rangeInv x 0 (fun n3 (has : Bool) j => l80d 1001 c ls (k : Int) s (m : Int) q (i : Int) (fun y0 y1 => l80c 1001 c ls (k : Int) s (m : Int) (fun y0 y1 => l80b 1001 c ls (k : Int) (fun y0 => l80a 1001 c ls n y0) n' y0 y1) n2 y0 y1) n3 has j) (fun zs _ => ∀ i ∈ zs, 0 ≤ i ∧ i < (c.2.1.length : Int))
          (fun zs has => l80c 1001 c ls (k : Int) s (m : Int) (fun y0 y1 => l80b 1001 c ls (k : Int) (fun y0 => l80a 1001 c ls n y0) n' y0 y1) n2 (q && (has || hsM c zs k (m : Int))) ((i + 1 : Nat) : Int)) (fun n3 has j y zs hj hy hI3 ih4 => ?_) (fun n3 has _ => ?_) 1001 false (by omega) (okCo_at x2)).trans ?_
        · have hyr := hI3 y (by simp)
          have hzs : ∀ i ∈ zs, 0 ≤ i ∧ i < (c.2.1.length : Int) := fun i hi => hI3 i (by simp [hi])
          have hkw : k < (c.2.1.getD y.toNat []).length := by rw [hlen _ (getD_mem (by omega))]; exact hk
          simp only [l80d, ixB hi, chk_true, Int.toNat_natCast, hx, ixA hj, ixB hj, cond_true, hy, chk_dec hyr, ixB hkw, ixW hj (by omega), beqDec, ih4 _ hzs]
          rw [show hsM c (y :: zs) k (m : Int) = (decide ((c.2.1.getD y.toNat []).getD k 0 = (m : Int)) || hsM c zs k (m : Int)) from List.any_cons]
          cases has <;> simp
        · simp only [l80d, ixB hi, chk_true, Int.toNat_natCast, hx, ixE, cond_false, ixW hi (by omega)]
          rw [show hsM c [] k (m : Int) = false from rfl, Bool.or_false]
          cases q <;> rfl
        · rw [Bool.false_or, ih3 _ hys, List.all_cons, Bool.and_assoc]
      · simp only [l80c, ixE, cond_false, List.all_nil, Bool.and_true]
        rw [w64_small (by omega)]
        cases s <;> rfl
      · rw [ih2', Bool.true_and, Bool.or_assoc]
    · simp only [l80b, decide_eq_false (Int.lt_irrefl _), cond_false]
      rw [show c.1.toNat - c.1.toNat = 0 by omega, w64_small (by omega)]
      cases s <;> rfl
    · rw [Bool.false_or, ih']
      show cond (plK c ls k) _ _ = _
      cases plK c ls k <;> rfl
  · cases h⟩
theorem inA_eq : ∀ (r : List (List Int)) (a : List Int), inA r a = a.filter fun x => r.all fun l => decide (x ∈ l)
  | [], a => (List.filter_eq_self.2 fun _ _ => rfl).symm
  | l :: r, a => by
    rw [inA, inA_eq r, fil, List.filter_filter]
    congr 1
    funext x
    rw [List.all_cons, Bool.and_comm]
theorem anA_bit (c : Cd) (k j : Nat) : ∀ (r : List (List Int)) (f : Nat → Nat), (anA c r f k).testBit j = ((f k).testBit j && r.all fun l => (mkN c l k).testBit j)
  | [], f => by simp [anA]
  | l :: r, f => by rw [anA, anA_bit c k j r, Nat.testBit_and, List.all_cons, Bool.and_assoc]
theorem fb_at {n : Nat} (h : 0 ≤ fb n) : ∃ m : Nat, m < 4 ∧ fb n = (m : Int) ∧ n.testBit m = true := by
  rcases fx_cases (fun m : Int => n.testBit m.toNat) 0 [0, 1, 2, 3] 0 (by omega) with ⟨h1, _⟩ | ⟨i, h1, h2, h3, _⟩
  · unfold fb at h; omega
  · have hi : i < 4 := h1
    refine ⟨i, hi, by unfold fb; omega, ?_⟩
    match i, hi, h3 with
    | 0, _, h3 => exact h3
    | 1, _, h3 => exact h3
    | 2, _, h3 => exact h3
    | 3, _, h3 => exact h3
theorem fb_of {n m : Nat} (h : m < 4) (hb : n.testBit m = true) : 0 ≤ fb n := by
  have := fx_ge (fun m : Int => n.testBit m.toNat) [0, 1, 2, 3] 0 (by omega)
  have h2 : ([0, 1, 2, 3] : List Int).any (fun m : Int => n.testBit m.toNat) = true := by
    rw [List.any_eq_true]
    refine ⟨(m : Int), ?_, by rw [Int.toNat_natCast]; exact hb⟩
    match m, h with
    | 0, _ => simp
    | 1, _ => simp
    | 2, _ => simp
    | 3, _ => simp
  rw [h2, decide_eq_true_eq] at this
  exact this
theorem an_bit {c : Cd} {ls : List (List Int)} {k j : Nat} (hc : cdE c = 0) (h0 : 0 < ls.length) (hok : ∀ l ∈ ls, okS c l = true) (hk : k < sz c) :
    (anA c (ls.drop 1) (mkN c (ls.getD 0 [])) k).testBit j = ls.all fun l => hsM c l k (j : Int) := by
  obtain ⟨_, _, _, hlen, hb⟩ := cdE_ok hc
  have one : ∀ l, okS c l = true → (mkN c l k).testBit j = hsM c l k (j : Int) := fun l h =>
    mkN_bit (fun w hw => by rw [hlen w hw]; exact hk) (fun w hw m hm => (hb w hw m hm).1) (okCo_at (okS_at h).2.1)
  match ls, h0, hok with
  | l :: r, _, hok =>
    rw [anA_bit]
    show ((mkN c l k).testBit j && r.all fun l => (mkN c l k).testBit j) = _
    rw [List.all_cons, one l (hok l (by simp))]
    congr 1
    rw [Bool.eq_iff_iff, List.all_eq_true, List.all_eq_true]
    exact ⟨fun h x hx => by rw [← one x (hok x (by simp [hx]))]; exact h x hx, fun h x hx => by rw [one x (hok x (by simp [hx]))]; exact h x hx⟩
theorem hsM_lt {c : Cd} {l : List Int} {k : Nat} {m : Int} (hc : cdE c = 0) (hl : okCo c l = true) (hk : k < sz c) (h : hsM c l k m = true) : 0 ≤ m ∧ m < c.1 := by
  obtain ⟨_, _, _, hlen, hb⟩ := cdE_ok hc
  obtain ⟨i, hi, he⟩ := List.any_eq_true.1 h
  have hir := okCo_at hl i hi
  have hw := getD_mem (l := c.2.1) (d := []) (show i.toNat < c.2.1.length by omega)
  rw [← of_decide_eq_true he]
  exact hb _ hw _ (getD_mem (by rw [hlen _ hw]; exact hk))
theorem fb_pl {c : Cd} {ls : List (List Int)} {k : Nat} (hc : cdE c = 0) (h0 : 0 < ls.length) (hok : ∀ l ∈ ls, okS c l = true) (hk : k < sz c) :
    decide (0 ≤ fb (anA c (ls.drop 1) (mkN c (ls.getD 0 [])) k)) = plK c ls k := by
  have hm := (cdE_ok hc).1
  rw [Bool.eq_iff_iff, decide_eq_true_eq, plK, List.any_eq_true]
  constructor
  · intro h
    obtain ⟨m, h1, h2, h3⟩ := fb_at h
    rw [an_bit hc h0 hok hk] at h3
    have := hsM_lt hc (okS_at (hok _ (getD_mem (d := []) h0))).2.1 hk (List.all_eq_true.1 h3 _ (getD_mem (d := []) h0))
    exact ⟨m, by rw [List.mem_range'_1]; omega, h3⟩
  · rintro ⟨m, hmr, h⟩
    rw [List.mem_range'_1] at hmr
    exact fb_of (m := m) (by omega) (by rw [an_bit hc h0 hok hk]; exact h)
theorem dbF_snd {c : Cd} {ls : List (List Int)} (hc : cdE c = 0) (h0 : 0 < ls.length) (hok : ∀ l ∈ ls, okS c l = true) : (dbF c ls).2 = (pl c ls && !cm ls) := by
  have e1 : ((List.range' 0 (sz c)).all fun k => decide (0 ≤ fb (anA c (ls.drop 1) (mkN c (ls.getD 0 [])) k))) = pl c ls := by
    rw [Bool.eq_iff_iff, pl, List.all_eq_true, List.all_eq_true]
    have hx : ∀ k ∈ List.range' 0 (sz c), k < sz c := fun k hk => by rw [List.mem_range'_1] at hk; omega
    exact ⟨fun h k hk => by rw [← fb_pl hc h0 hok (hx k hk)]; exact h k hk, fun h k hk => by rw [fb_pl hc h0 hok (hx k hk)]; exact h k hk⟩
  rw [dbF, fin78, e1]
  have e2 : decide ((inA (ls.drop 1) (ls.getD 0 [])).length = 0) = !cm ls := by
    match ls, h0 with
    | l :: r, _ =>
      rw [inA_eq]
      show decide ((l.filter fun x => r.all fun l => decide (x ∈ l)).length = 0) = !(l.any fun x => (l :: r).all fun l => decide (x ∈ l))
      rw [Bool.eq_iff_iff, decide_eq_true_eq, Bool.not_eq_true', List.any_eq_false, List.length_eq_zero_iff, List.filter_eq_nil_iff]
      exact ⟨fun h x hx q => h x hx (by rw [List.all_cons, Bool.and_eq_true] at q; exact q.2), fun h x hx q => h x hx (by rw [List.all_cons, q, decide_eq_true hx]; rfl)⟩
  rw [e2]
  cases pl c ls <;> rfl
theorem dbO_snd (c : Cd) (d : Db) (n : Int) : ∀ (l : List (List (List Int))), (dbO c l (d, n)).2 = cond (l.any fun ls => (dbF c ls).2) 0 n
  | [] => rfl
  | x :: r => by
    rw [dbO_cons, List.any_cons]
    cases (dbF c x).2 with
    | true => rfl
    | false => exact dbO_snd c d n r
def pr2 (c : Cd) (a b : List Int) : Bool := !cm [a, b] && pl c [a, b]
theorem cm2 {a b : List Int} : cm [a, b] = true ↔ ∃ x, x ∈ a ∧ x ∈ b := by
  show (a.any fun x => decide (x ∈ a) && (decide (x ∈ b) && true)) = true ↔ _
  rw [List.any_eq_true]
  constructor
  · rintro ⟨x, h1, h2⟩
    simp only [Bool.and_true, Bool.and_eq_true, decide_eq_true_eq] at h2
    exact ⟨x, h2⟩
  · rintro ⟨x, h1, h2⟩
    exact ⟨x, h1, by simp [h1, h2]⟩
theorem pr2_comm (c : Cd) (a b : List Int) : pr2 c a b = pr2 c b a := by
  unfold pr2
  have h1 : cm [a, b] = cm [b, a] := by
    rw [Bool.eq_iff_iff, cm2, cm2]
    exact ⟨fun ⟨x, h, h'⟩ => ⟨x, h', h⟩, fun ⟨x, h, h'⟩ => ⟨x, h', h⟩⟩
  have h2 : pl c [a, b] = pl c [b, a] := by
    unfold pl plK
    congr 1; funext k; congr 1; funext m
    show (hsM c a k (m : Int) && (hsM c b k (m : Int) && true)) = (hsM c b k (m : Int) && (hsM c a k (m : Int) && true))
    cases hsM c a k (m : Int) <;> cases hsM c b k (m : Int) <;> rfl
  rw [h1, h2]
theorem pr2_self {c : Cd} {a : List Int} (h : 0 < a.length) : pr2 c a a = false := by
  have : cm [a, a] = true := cm2.2 ⟨a.getD 0 0, getD_mem h, getD_mem h⟩
  rw [pr2, this]; rfl
theorem prs_any {c : Cd} (hc : cdE c = 0) : ((prs c.2.1.length).any fun ls => (dbF c ls).2) = (List.range' 0 (co c.2.1.length 2).length).any fun i => (List.range' 0 i).any fun k => pr2 c ((co c.2.1.length 2).getD k []) ((co c.2.1.length 2).getD i []) := by
  have hn := (cdE_ok hc).2.1.2
  have ok : ∀ x ∈ co c.2.1.length 2, okS c x = true := fun x hx => okS_co hn (co_mem.1 hx)
  have e : ∀ a b, a ∈ co c.2.1.length 2 → b ∈ co c.2.1.length 2 → (dbF c [a, b]).2 = pr2 c a b := fun a b ha hb => by
    rw [dbF_snd hc (by simp) (fun l hl => by
      simp only [List.mem_cons, List.not_mem_nil, or_false] at hl
      rcases hl with rfl | rfl
      · exact ok _ ha
      · exact ok _ hb), pr2, Bool.and_comm]
  unfold prs
  generalize co c.2.1.length 2 = L at *
  have idx : ∀ x ∈ L, ∃ i, i < L.length ∧ L.getD i [] = x := fun x hx => by
    obtain ⟨i, hi, h⟩ := List.getElem_of_mem hx
    exact ⟨i, hi, by rw [List.getD_eq_getElem?_getD, List.getElem?_eq_getElem hi]; exact h⟩
  rw [Bool.eq_iff_iff]
  simp only [List.any_eq_true, List.mem_flatMap, List.mem_map, List.mem_range'_1]
  constructor
  · rintro ⟨ls, ⟨a, ha, b, hb, rfl⟩, h⟩
    rw [e a b ha hb] at h
    obtain ⟨i, hi, rfl⟩ := idx a ha
    obtain ⟨j, hj, rfl⟩ := idx b hb
    rcases Nat.lt_trichotomy i j with q | q | q
    · exact ⟨j, by omega, i, by omega, h⟩
    · subst q
      rw [pr2_self (okS_at (ok _ ha)).1] at h; cases h
    · exact ⟨i, by omega, j, by omega, by rw [pr2_comm]; exact h⟩
  · rintro ⟨i, hi, k, hk, h⟩
    have h1 : L.getD k [] ∈ L := getD_mem (by omega)
    have h2 : L.getD i [] ∈ L := getD_mem (by omega)
    exact ⟨_, ⟨_, h1, _, h2, rfl⟩, by rw [e _ _ h1 h2]; exact h⟩
theorem cm_tri {x y z : Int} (h1 : x < y) (h2 : y < z) : cm (tri [x, y, z]) = false := by
  show ([x, y].any fun a => ([[x, y], [x, z], [y, z]] : List (List Int)).all fun l => decide (a ∈ l)) = false
  rw [List.any_eq_false]
  intro a ha q
  simp only [List.all_cons, List.all_nil, Bool.and_true, Bool.and_eq_true, decide_eq_true_eq, List.mem_cons, List.not_mem_nil, or_false] at ha q
  omega
theorem trs_any {c : Cd} (hc : cdE c = 0) : ((trs c.2.1.length).any fun ls => (dbF c ls).2) = (List.range' 0 c.2.1.length).any fun (x : Nat) => (List.range' (x + 1) (c.2.1.length - (x + 1))).any fun (y : Nat) => (List.range' (y + 1) (c.2.1.length - (y + 1))).any fun (z : Nat) => pl c (tri [(x : Int), (y : Int), (z : Int)]) := by
  have e : ∀ x y z : Int, x < y → y < z → isCo c.2.1.length 3 [x, y, z] → (dbF c (tri [x, y, z])).2 = pl c (tri [x, y, z]) := fun x y z h1 h2 h => by
    have hok := tri_ok h (Nat.le_refl _)
    rw [List.all_eq_true] at hok
    rw [dbF_snd hc (by simp [tri]) hok, cm_tri h1 h2, Bool.not_false, Bool.and_true]
  unfold trs
  rw [Bool.eq_iff_iff]
  simp only [List.any_eq_true, List.mem_map, List.mem_filter, List.mem_range'_1, decide_eq_true_eq]
  constructor
  · rintro ⟨ls, ⟨w, ⟨hw, h3⟩, rfl⟩, h⟩
    have hw := co_mem.1 hw
    match w, hw, h3, h with
    | [x, y, z], hw, _, h =>
      have hr := hw.2.2.1
      simp only [List.pairwise_cons, List.mem_cons, List.not_mem_nil, or_false, forall_eq_or_imp, forall_eq] at hr
      have m0 := hw.2.2.2 x (by simp)
      have m1 := hw.2.2.2 y (by simp)
      have m2 := hw.2.2.2 z (by simp)
      rw [e x y z (by omega) (by omega) hw] at h
      refine ⟨x.toNat, by omega, y.toNat, by omega, z.toNat, by omega, ?_⟩
      rw [show ((x.toNat : Nat) : Int) = x by omega, show ((y.toNat : Nat) : Int) = y by omega, show ((z.toNat : Nat) : Int) = z by omega]
      exact h
    | _ :: _ :: _ :: _ :: _, hw, _, _ => have := hw.2.1; simp only [List.length_cons] at this; omega
  · rintro ⟨x, hx, y, hy, z, hz, h⟩
    have hw : isCo c.2.1.length 3 [(x : Int), (y : Int), (z : Int)] := by
      refine ⟨by simp, Nat.le_refl _, ?_, ?_⟩
      · simp only [List.pairwise_cons, List.mem_cons, List.not_mem_nil, or_false, forall_eq_or_imp, forall_eq, List.Pairwise.nil, false_imp_iff, implies_true, and_true]
        omega
      · simp only [List.mem_cons, List.not_mem_nil, or_false, forall_eq_or_imp, forall_eq]
        omega
    exact ⟨_, ⟨_, ⟨co_mem.2 hw, Nat.le_refl _⟩, rfl⟩, by rw [e _ _ _ (by omega) (by omega) hw]; exact h⟩
def B37 (c : Cd) : Option Int := if smB c = true then some (dbV c).2 else none
theorem KB37 : FnOk Tryd.prog 37 (F37 B37) := ok37 B22 B69 B79 B80 KB23 KB69 KB79 KB80 B37 fun c r h => ⟨2001, by
  simp only [B37] at h
  split at h
  · rename_i hs
    rw [← h, m37, B22, if_pos hs, Option.bind_some, bneDec, dbV]
    cases e : decide (cdE c = 0) with
    | false => rfl
    | true =>
      have hc := of_decide_eq_true e
      have hn := (cdE_ok hc).2.1
      have e69 : B69 c 2 = some (co c.2.1.length 2) := if_pos hn.2
      rw [Bool.not_true, cond_false, cond_true, e69, Option.bind_some, dbO_snd, cands, List.any_append, prs_any hc, trs_any hc]
      have hlen : (co c.2.1.length 2).length ≤ 1024 := co_len hn.2
      have ok : ∀ x ∈ co c.2.1.length 2, okS c x = true := fun x hx => okS_co hn.2 (co_mem.1 hx)
      generalize co c.2.1.length 2 = L at *
      -- the triangles
      have tris : l37c B22 B69 B79 B80 2001 c 2001 0 = some (cond ((List.range' 0 c.2.1.length).any fun (x : Nat) => (List.range' (x + 1) (c.2.1.length - (x + 1))).any fun (y : Nat) => (List.range' (y + 1) (c.2.1.length - (y + 1))).any fun (z : Nat) => pl c (tri [(x : Int), (y : Int), (z : Int)])) 0 14) := by
        refine (countUp 0 (c.2.1.length : Int) (by omega) (fun n (_ : Unit) t => l37c B22 B69 B79 B80 2001 c n t) (fun _ _ => True) (fun t _ => some (cond ((List.range' t.toNat (c.2.1.length - t.toNat)).any fun (x : Nat) => (List.range' (x + 1) (c.2.1.length - (x + 1))).any fun (y : Nat) => (List.range' (y + 1) (c.2.1.length - (y + 1))).any fun (z : Nat) => pl c (tri [(x : Int), (y : Int), (z : Int)])) 0 14))
          (fun n _ t a b _ ih => ?_) (fun n _ _ => by simp only [l37c, decide_eq_false (Int.lt_irrefl _), cond_false, Int.toNat_natCast, Nat.sub_self]; rfl) 2001 () (by omega) trivial).trans rfl
        obtain ⟨x, rfl⟩ : ∃ j : Nat, t = j := ⟨t.toNat, by omega⟩
        have ih' := ih () trivial
        rw [show ((x : Int) + 1).toNat = x + 1 by omega] at ih'
        simp only [l37c, decide_eq_true b, cond_true, Int.toNat_natCast]
        rw [show c.2.1.length - x = (c.2.1.length - (x + 1)) + 1 by omega, List.range'_succ, List.any_cons, w64_small (by omega)]
        refine (countUp ((x : Int) + 1) (c.2.1.length : Int) (by omega) (fun n' (_ : Unit) t => l37d B22 B69 B79 B80 2001 c (x : Int) (fun y0 => l37c B22 B69 B79 B80 2001 c n y0) n' t) (fun _ _ => True) (fun t _ => cond ((List.range' t.toNat (c.2.1.length - t.toNat)).any fun (y : Nat) => (List.range' (y + 1) (c.2.1.length - (y + 1))).any fun (z : Nat) => pl c (tri [(x : Int), (y : Int), (z : Int)])) (some 0) (l37c B22 B69 B79 B80 2001 c n ((x : Int) + 1)))
          (fun n' _ t a2 b2 _ ih2 => ?_) (fun n' _ _ => by simp only [l37d, decide_eq_false (Int.lt_irrefl _), cond_false, Int.toNat_natCast, Nat.sub_self]; rw [w64_small (by omega)]; rfl) 2001 () (by omega) trivial).trans ?_
        · obtain ⟨y, rfl⟩ : ∃ j : Nat, t = j := ⟨t.toNat, by omega⟩
          have ih2' := ih2 () trivial
          rw [show ((y : Int) + 1).toNat = y + 1 by omega] at ih2'
          simp only [l37d, decide_eq_true b2, cond_true, Int.toNat_natCast]
          rw [show c.2.1.length - y = (c.2.1.length - (y + 1)) + 1 by omega, List.range'_succ, List.any_cons, w64_small (by omega)]
          refine (countUp ((y : Int) + 1) (c.2.1.length : Int) (by omega) (fun n2 (_ : Unit) t => l37e B22 B69 B79 B80 2001 c (x : Int) (y : Int) (fun y0 => l37d B22 B69 B79 B80 2001 c (x : Int) (fun y0 => l37c B22 B69 B79 B80 2001 c n y0) n' y0) n2 t) (fun _ _ => True) (fun t _ => cond ((List.range' t.toNat (c.2.1.length - t.toNat)).any fun (z : Nat) => pl c (tri [(x : Int), (y : Int), (z : Int)])) (some 0) (l37d B22 B69 B79 B80 2001 c (x : Int) (fun y0 => l37c B22 B69 B79 B80 2001 c n y0) n' ((y : Int) + 1)))
            (fun n2 _ t a3 b3 _ ih3 => ?_) (fun n2 _ _ => by simp only [l37e, decide_eq_false (Int.lt_irrefl _), cond_false, Int.toNat_natCast, Nat.sub_self]; rw [w64_small (by omega)]; rfl) 2001 () (by omega) trivial).trans ?_
          · obtain ⟨z, rfl⟩ : ∃ j : Nat, t = j := ⟨t.toNat, by omega⟩
            have ih3' := ih3 () trivial
            rw [show ((z : Int) + 1).toNat = z + 1 by omega] at ih3'
            have hw : isCo c.2.1.length 3 [(x : Int), (y : Int), (z : Int)] := by
              refine ⟨by simp, Nat.le_refl _, ?_, ?_⟩
              · simp only [List.pairwise_cons, List.mem_cons, List.not_mem_nil, or_false, forall_eq_or_imp, forall_eq, List.Pairwise.nil, false_imp_iff, implies_true, and_true]
                omega
              · simp only [List.mem_cons, List.not_mem_nil, or_false, forall_eq_or_imp, forall_eq]
                omega
            have e80 : B80 c (tri [(x : Int), (y : Int), (z : Int)]) = some (pl c (tri [(x : Int), (y : Int), (z : Int)])) := if_pos ⟨hc, by simp [tri], tri_ok hw (Nat.le_refl _)⟩
            simp only [l37e, decide_eq_true b3, cond_true, Int.toNat_natCast]
            rw [show c.2.1.length - z = (c.2.1.length - (z + 1)) + 1 by omega, List.range'_succ, List.any_cons, w64_small (by omega), ih3']
            rw [show B80 c [[(x : Int), (y : Int)], [(x : Int), (z : Int)], [(y : Int), (z : Int)]] = _ from e80, Option.bind_some]
            cases pl c (tri [(x : Int), (y : Int), (z : Int)]) <;> rfl
          · rw [show ((y : Int) + 1).toNat = y + 1 by omega, ih2']
            cases (List.range' (y + 1) (c.2.1.length - (y + 1))).any fun (z : Nat) => pl c (tri [(x : Int), (y : Int), (z : Int)]) <;> rfl
        · rw [show ((x : Int) + 1).toNat = x + 1 by omega, ih']
          cases (List.range' (x + 1) (c.2.1.length - (x + 1))).any fun (y : Nat) => (List.range' (y + 1) (c.2.1.length - (y + 1))).any fun (z : Nat) => pl c (tri [(x : Int), (y : Int), (z : Int)]) <;> rfl
      -- the pairs
      refine (countUp 0 (L.length : Int) (by omega) (fun n (_ : Unit) t => l37a B22 B69 B79 B80 2001 c L n t) (fun _ _ => True) (fun t _ => cond ((List.range' t.toNat (L.length - t.toNat)).any fun i => (List.range' 0 i).any fun k => pr2 c (L.getD k []) (L.getD i [])) (some 0) (l37c B22 B69 B79 B80 2001 c 2001 0))
        (fun n _ t a b _ ih => ?_) (fun n _ _ => by simp only [l37a, decide_eq_false (Int.lt_irrefl _), cond_false, Int.toNat_natCast, Nat.sub_self]; rfl) 2001 () (by omega) trivial).trans ?_
      · obtain ⟨i, rfl⟩ : ∃ j : Nat, t = j := ⟨t.toNat, by omega⟩
        have hi : i < L.length := by omega
        have ih' := ih () trivial
        rw [show ((i : Int) + 1).toNat = i + 1 by omega] at ih'
        simp only [l37a, decide_eq_true b, cond_true, Int.toNat_natCast]
        rw [show L.length - i = (L.length - (i + 1)) + 1 by omega, List.range'_succ, List.any_cons]
        refine (countUp 0 (i : Int) (by omega) (fun n' (_ : Unit) t => l37b B22 B69 B79 B80 2001 c L (i : Int) (fun y0 => l37a B22 B69 B79 B80 2001 c L n y0) n' t) (fun _ _ => True) (fun t _ => cond ((List.range' t.toNat (i - t.toNat)).any fun k => pr2 c (L.getD k []) (L.getD i [])) (some 0) (l37a B22 B69 B79 B80 2001 c L n ((i : Int) + 1)))
          (fun n' _ t a2 b2 _ ih2 => ?_) (fun n' _ _ => by simp only [l37b, decide_eq_false (Int.lt_irrefl _), cond_false, Int.toNat_natCast, Nat.sub_self]; rw [w64_small (by omega)]; rfl) 2001 () (by omega) trivial).trans ?_
        · obtain ⟨k, rfl⟩ : ∃ j : Nat, t = j := ⟨t.toNat, by omega⟩
          have hk : k < i := by omega
          have ih2' := ih2 () trivial
          rw [show ((k : Int) + 1).toNat = k + 1 by omega] at ih2'
          have s1 := ok _ (getD_mem (d := []) (show k < L.length by omega))
          have s2 := ok _ (getD_mem (d := []) hi)
          obtain ⟨p1, p2, p3⟩ := okS_at s1
          obtain ⟨q1, q2, q3⟩ := okS_at s2
          have hmem : ∀ l ∈ [L.getD k [], L.getD i []], okS c l = true := fun l hl => by
            simp only [List.mem_cons, List.not_mem_nil, or_false] at hl
            rcases hl with rfl | rfl
            · exact s1
            · exact s2
          have e79 : B79 c [L.getD k [], L.getD i []] = some (cm [L.getD k [], L.getD i []]) := by
            rw [B79, if_pos ⟨by omega, by simp, fun l hl => by have := (okS_at (hmem l hl)).2.2; omega⟩, cm_eq (by simp) fun l hl => okCo_at (okS_at (hmem l hl)).2.1]
          have e80 : B80 c [L.getD k [], L.getD i []] = some (pl c [L.getD k [], L.getD i []]) := if_pos ⟨hc, by simp, List.all_eq_true.2 hmem⟩
          simp only [l37b, decide_eq_true b2, cond_true, Int.toNat_natCast, ixB (show k < L.length by omega), ixB hi, chk_true, e79, e80, Option.bind_some]
          rw [show i - k = (i - (k + 1)) + 1 by omega, List.range'_succ, List.any_cons, w64_small (by omega), ih2', pr2]
          cases cm [L.getD k [], L.getD i []] with
          | true => rfl
          | false => cases pl c [L.getD k [], L.getD i []] <;> rfl
        · rw [ih']
          simp only [Int.toNat_zero, Nat.sub_zero]
          cases (List.range' 0 i).any fun k => pr2 c (L.getD k []) (L.getD i []) <;> rfl
      · rw [tris]
        simp only [Int.toNat_zero, Nat.sub_zero]
        cases (List.range' 0 L.length).any fun i => (List.range' 0 i).any fun k => pr2 c (L.getD k []) (L.getD i []) <;> rfl
  · cases h⟩
theorem KB39 : FnOk Tryd.prog 39 (F39 B38) := ok39 B22 B55 B58 B59 B79 KB23 KB57 KB60 KB61 KB79 B38 fun c d r h => ⟨41, by
  simp only [B38] at h
  split at h
  · rename_i hs0
    obtain ⟨hs, hw, hls⟩ := okD_at hs0
    rw [← h, m39, B22, if_pos hs, Option.bind_some, vfV]
    simp only [lenEq0]
    simp only [beqDec, bneDec]
    rw [show decide ((d.2.1.length : Int) > 10) = decide (10 < d.2.1.length) from lenGt _ 10]
    cases e : decide (cdE c = 0) with
    | false =>
      have := of_decide_eq_false e
      rw [show cwE c d.1 = cdE c by rw [cwE, e, cond_false], decide_eq_false this]; rfl
    | true =>
      have hc := of_decide_eq_true e
      have hn := (cdE_ok hc).2.1
      rw [show cwE c d.1 = wE c d.1 by rw [cwE, e, cond_true]]
      simp only [cond_true, B58, if_pos (show 0 < c.2.1.length ∧ d.1.length ≤ 1000 from ⟨hn.1, hw⟩), Option.bind_some]
      cases ew : decide (wE c d.1 = 0) with
      | false => rfl
      | true =>
        have hwe := of_decide_eq_true ew
        simp only [cond_true, Bool.not_true, cond_false]
        cases e1 : decide (d.2.1.length = 0) with
        | true => rfl
        | false =>
          have h1 := of_decide_eq_false e1
          cases e2 : decide (10 < d.2.1.length) with
          | true => rfl
          | false =>
            have h2 := of_decide_eq_false e2
            simp only [cond_false]
            obtain ⟨w, ls, u⟩ := d
            cases u
            simp only at *
            refine (rangeIx ls [] (fun n (_ : Unit) t => l39a B22 B55 B58 B59 B79 41 c (w, ls, ()) n t) (fun t rest _ => (∀ l ∈ ls.take t, coE c l = 0) ∧ (∀ l ∈ rest, l.length ≤ 1000)) (fun t xs _ => some (vfO c w xs ls)) (fun n _ t x rest ht hx hI ih => ?_) (fun n _ hI => ?_) 41 () (by omega) ⟨fun l hl => (by cases hl), hls⟩).trans rfl
            · obtain ⟨i1, i2⟩ := hI
              have hxl := i2 x (by simp)
              have e55 : B55 c x = some (coE c x) := if_pos ⟨hxl, by omega⟩
              simp only [l39a, ixA ht, ixB ht, cond_true, chk_true, Int.toNat_natCast, hx, e55, Option.bind_some, beqDec, bneDec, vfO, vE]
              rw [show decide ((x.length : Int) > 2) = decide (2 < x.length) from lenGt _ 2]
              cases ec : decide (coE c x = 0) with
              | false => rfl
              | true =>
                have hco := of_decide_eq_true ec
                have e59 : B59 c x w = some (mk c x w) := if_pos (okC_of hc hco hwe hxl)
                simp only [cond_true, cond_false, Bool.not_true, e59, Option.bind_some]
                cases decide (2 < x.length) with
                | true => rfl
                | false =>
                  cases mk c x w with
                  | false => rfl
                  | true =>
                    simp only [cond_true, cond_false, Bool.not_true]
                    rw [ixW ht (by omega)]
                    exact ih () ⟨fun l hl => by
                      rw [take_succ' ht hx] at hl
                      rcases List.mem_append.1 hl with hl | hl
                      · exact i1 l hl
                      · rw [List.mem_singleton.1 hl]; exact hco, fun l hl => i2 l (by simp [hl])⟩
            · obtain ⟨i1, i2⟩ := hI
              rw [List.take_length] at i1
              have e79 : B79 c ls = some (cm ls) := by
                rw [B79, if_pos ⟨by omega, by omega, hls⟩, cm_eq (by omega) fun l hl i hi => (coE_ok (i1 l hl)).2.1 i hi]
              simp only [l39a, ixE, cond_false, e79, Option.bind_some, vfO, vE]
              cases cm ls <;> rfl
  · cases h⟩
end Go.Proofs.YtbjfbbfglkmadaaDoor
