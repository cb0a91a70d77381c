/-
 Doubts: which one the program finds.
-/
import Derived.Test.YtbjfbbfglkmadaaDoorM8
namespace Go.Proofs.YtbjfbbfglkmadaaDoor
open Go.RowKit
set_option linter.unusedVariables false

def anA (c : Cd) : List (List Int) → (Nat → Nat) → Nat → Nat
 | [], f => f
 | l :: r, f => anA c r fun k => f k &&& mkN c l k
def inA : List (List Int) → List Int → List Int
 | [], a => a
 | l :: r, a => inA r (fil l a)
def fb (n : Nat) : Int := fx (fun m : Int => n.testBit m.toNat) 0 [0, 1, 2, 3]
def fin78 (c : Cd) (ls : List (List Int)) (a : List Int) (f : Nat → Nat) : Db × Bool :=
 cond ((List.range' 0 (sz c)).all fun k => decide (0 ≤ fb (f k))) (((List.range' 0 (sz c)).map fun k => fb (f k), ls, ()), decide (a.length = 0)) (([], [], ()), false)
def dbF (c : Cd) (ls : List (List Int)) : Db × Bool := fin78 c ls (inA (ls.drop 1) (ls.getD 0 [])) (anA c (ls.drop 1) (mkN c (ls.getD 0 [])))
def okS (c : Cd) (l : List Int) : Bool := decide (0 < l.length) && okCo c l && decide (l.length ≤ 10)
theorem okS_at {c : Cd} {l : List Int} (h : okS c l = true) : 0 < l.length ∧ okCo c l = true ∧ l.length ≤ 10 := by
 simp only [okS, bae, dtq] at h; exact ⟨h.1.1, h.1.2, h.2⟩
def B78 (c : Cd) (ls : List (List Int)) : Option (Db × Bool) := if cdE c = 0 ∧ 0 < ls.length ∧ ls.length ≤ 1000 ∧ ls.all (okS c) = true then some (dbF c ls) else none
theorem KB78 : FnOk Tryd.prog 78 (F78 B78) := ok78 B52 B56 B68 B84 B94c95 B96c97 KB52 KB56 KB68 KB84 KB94c95 KB96c97 B78 fun c ls r h => ⟨1001, by
 simp only [B78] at h
 split at h
 ·rename_i ho
  obtain ⟨hc, h0, hl, hok⟩ := ho
  rw [List.all_eq_true] at hok
  obtain ⟨hm, hn, hz, hlen, hb⟩ := cdE_ok hc
  have hoc := okW_code hc
  have e56 : ∀ l, okS c l = true → B56 c l = some (arr (mkN c l)) := fun l h => by
   obtain ⟨a1, a2, a3⟩ := okS_at h
   exact if_pos ⟨by omega, by omega, List.all_eq_true.2 hoc, a2⟩
  have lt16 : ∀ l, okS c l = true → ∀ k, mkN c l k < 256 := fun l h k => orF_lt _ _ _ (by decide) fun i hi => by
   have := okCo_at (okS_at h).2.1 i hi
   exact ofN_lt (fun w hw => by rw [List.mem_singleton.1 hw]; exact hoc _ (getD_mem (by omega))) k
  have s0 := hok _ (getD_mem (d := []) h0)
  obtain ⟨z1, z2, z3⟩ := okS_at s0
  rw [← h, m78, chk_dec (by omega), e56 _ s0, Option.bind_some, chk_dec (by omega), chk_of (by rw [Bool.and_true]; exact decide_eq_true z1)]
  simp only [B68, if_pos (show (ls.getD 0 []).length ≤ 1000 by omega), Option.bind_some]
  rw [chk_dec (by omega)]
  refine (rangeInv (ls.drop 1) [] (fun n (s : List Int × (Nat → Nat)) t => l78a B52 B56 B68 B84 B94c95 B96c97 1001 c ls n t s.1 [arr s.2]) (fun xs s => (∀ l ∈ xs, okS c l = true) ∧ s.1.length ≤ 10 ∧ ∀ k, s.2 k < 256)
   (fun xs s => some (fin78 c ls (inA xs s.1) (anA c xs s.2))) (fun n s t x rest ht hx hI ih => ?_) (fun n s hI => ?_) 1001 (ls.getD 0 [], mkN c (ls.getD 0 [])) (by simp; omega) ⟨fun l hl => hok l (List.mem_of_mem_drop hl), z3, lt16 _ s0⟩).trans rfl
  ·obtain ⟨a, f⟩ := s
   obtain ⟨i1, i2, i3⟩ := hI
   simp only at i2 i3
   have sx := i1 x (by simp)
   obtain ⟨x1, x2, x3⟩ := okS_at sx
   have lx := lt16 x sx
   have e84 : B84 (arr f) (arr (mkN c x)) = some (arr fun k => f k &&& mkN c x k) := by
    rw [B84, if_pos ⟨okA_arr i3, okA_arr lx⟩]
    exact congrArg some (arr_ext fun k hk => by rw [arr_get _ hk, arr_get _ hk, Int.toNat_natCast, Int.toNat_natCast])
   have e94 : B94c95 a x = some (fil x a, x) := if_pos ⟨by omega, by omega⟩
   have hfl : (fil x a).length ≤ a.length := List.length_filter_le _ _
   have ih' := ih (fil x a, fun k => f k &&& mkN c x k) ⟨fun l hl => i1 l (by simp [hl]), by simp only; omega, fun k => Nat.and_lt_two_pow (n := 8) _ (lx k)⟩
   simp only [l78a, ixA ht, ixB ht, cond_true, chk_true, Int.toNat_natCast, hx, e56 x sx, Option.bind_some]
   rw [show ([arr f] : List (List Int)).getD 0 [0, 0, 0, 0, 0, 0, 0, 0] = arr f from rfl, e84, Option.bind_some, e94, Option.bind_some, ixW ht (by simp; omega)]
   exact ih'
  ·obtain ⟨a, f⟩ := s
   obtain ⟨i1, i2, i3⟩ := hI
   simp only at i2 i3
   simp only [l78a, ixE, cond_false]
   rw [B52, if_pos hn.1, Option.bind_some, chk_of (by rw [Bool.and_true]; exact decide_eq_true (by omega))]
   refine (countUp 0 (sz c : Int) (by omega) (fun n s t => l78b B52 B56 B68 B84 B94c95 B96c97 1001 ls a [arr f] (sz c : Int) n t s) (fun t s => (s.length : Int) ≤ t) (fun t s => some (cond ((List.range' t.toNat (sz c - t.toNat)).all fun k => decide (0 ≤ fb (f k))) ((s ++ (List.range' t.toNat (sz c - t.toNat)).map fun k => fb (f k), ls, ()), decide (a.length = 0)) (([], [], ()), false)))
    (fun n s t h1 h2 hI ih => ?_) (fun n s _ => ?_) 1001 [] (by omega) (by simp)).trans rfl
   ·obtain ⟨k, rfl⟩ : ∃ j : Nat, t = j := ⟨t.toNat, by omega⟩
    have hk : k < sz c := by omega
    have hb : decide (0 ≤ (k : Int) ∧ (k : Int) < (sz c : Int)) = true := decide_eq_true (by omega)
    have e96 : B96c97 [0, 1, 2, 3] ((arr f).getD k 0) = some (fb (f k), [0, 1, 2, 3], (arr f).getD k 0) := by
     have h3 := i3 k
     rw [arr_get f (by omega), B96c97, if_pos ⟨by simp, by simp, by omega, by omega⟩, Int.toNat_natCast]; rfl
    have ih' := fun s' h' => ih s' h'
    simp only [show ((k : Int) + 1).toNat = k + 1 by omega] at ih'
    simp only [l78b, decide_eq_true h2, hb, cond_true, chk_true, Int.toNat_natCast, Nat.sub_zero, Nat.zero_add]
    rw [show ([arr f] : List (List Int)).getD 0 [0, 0, 0, 0, 0, 0, 0, 0] = arr f from rfl, e96, Option.bind_some, show sz c - k = (sz c - (k + 1)) + 1 by omega, List.range'_succ, List.all_cons, List.map_cons]
    cases e : decide (fb (f k) < 0) with
    | true =>
     have := of_decide_eq_true e
     rw [cond_true, decide_eq_false (show ¬ 0 ≤ fb (f k) by omega)]; rfl
    | false =>
     have := of_decide_eq_false e
     rw [cond_false, chk_of (small_of (by omega) (by decide)), decide_eq_true (show 0 ≤ fb (f k) by omega), Bool.true_and, w64_small (by omega), ih' _ (by simp; omega), List.append_assoc]; rfl
   ·simp only [l78b, Int.toNat_natCast, Nat.sub_zero, decide_eq_false (Int.lt_irrefl _), cond_false, lenEq0, Int.toNat_natCast, Nat.sub_self, List.range'_zero, List.all_nil, cond_true, List.map_nil, List.append_nil]
 ·cases h⟩
def tri (e : List Int) : List (List Int) := [[e.getD 0 0, e.getD 1 0], [e.getD 0 0, e.getD 2 0], [e.getD 1 0, e.getD 2 0]]
def prs (N : Nat) : List (List (List Int)) := (co N 2).flatMap fun a => (co N 2).map fun b => [a, b]
def trs (N : Nat) : List (List (List Int)) := ((co N 3).filter fun e => decide (3 ≤ e.length)).map tri
def cands (N : Nat) : List (List (List Int)) := prs N ++ trs N
def dbO (c : Cd) (l : List (List (List Int))) (k : Db × Int) : Db × Int := match l.find? fun ls => (dbF c ls).2 with
 | some ls => ((dbF c ls).1, 0)
 | none => k
def dbV (c : Cd) : Db × Int := cond (decide (cdE c = 0)) (dbO c (cands c.2.1.length) (([], [], ()), 14)) (([], [], ()), cdE c)
theorem dbO_cons (c : Cd) (x : List (List Int)) (r : List (List (List Int))) (k : Db × Int) : dbO c (x :: r) k = cond (dbF c x).2 ((dbF c x).1, 0) (dbO c r k) := by
 unfold dbO
 rw [List.find?_cons]
 cases (dbF c x).2 <;> rfl
theorem dbO_app (c : Cd) (k : Db × Int) : ∀ (a b : List (List (List Int))), dbO c (a ++ b) k = dbO c a (dbO c b k)
 | [], b => rfl
 | x :: r, b => by rw [List.cons_append, dbO_cons, dbO_cons, dbO_app c k r b]
def B36 (c : Cd) : Option (Db × Int) := if smB c = true then some (dbV c) else none
theorem okS_co {c : Cd} {k : Nat} {x : List Int} (hn : c.2.1.length ≤ 10) (h : isCo c.2.1.length k x) : okS c x = true := by
 have hl := isCo_len h
 have h0 : 0 < x.length := by
  have := h.1
  cases x with
  | nil => exact absurd rfl this
  | cons _ _ => simp
 simp only [okS, okCo, bae, dtq, List.all_eq_true]
 exact ⟨⟨h0, fun i hi => h.2.2.2 i hi⟩, by omega⟩
theorem tri_ok {c : Cd} {x : List Int} (h : isCo c.2.1.length 3 x) (h3 : 3 ≤ x.length) : (tri x).all (okS c) = true := by
 have hm : ∀ i, i < 3 → 0 ≤ x.getD i 0 ∧ x.getD i 0 < (c.2.1.length : Int) := fun i hi => h.2.2.2 _ (getD_mem (by omega))
 have h0 := hm 0 (by decide)
 have h1 := hm 1 (by decide)
 have h2 := hm 2 (by decide)
 simp only [tri, List.all_cons, List.all_nil, okS, okCo, Bool.and_true, bae, dtq, List.length_cons, List.length_nil]
 exact ⟨⟨⟨by omega, h0, h1⟩, by omega⟩, ⟨⟨by omega, h0, h2⟩, by omega⟩, ⟨by omega, h1, h2⟩, by omega⟩
theorem KB36 : FnOk Tryd.prog 36 (F36 B36) := ok36 B22 B67 B68 B78 KB22 KB67 KB68 KB78 B36 fun c r h => ⟨0, by
 simp only [B36] at h
 split at h
 ·rename_i hs
  obtain ⟨h1, h2⟩ := smB_at hs
  rw [← h, m36, B22, if_pos hs, Option.bind_some, bneDec, dbV]
  cases e : decide (cdE c = 0) with
  | false => rfl
  | true =>
   have h0 := of_decide_eq_true e
   have hn := (cdE_ok h0).2.1
   simp only [Bool.not_true, cond_false, cond_true, B67, Option.bind_some]
   rw [chk_dec (by omega), gr_co]
   have e78 : ∀ ls, 0 < ls.length → ls.length ≤ 1000 → ls.all (okS c) = true → B78 c ls = some (dbF c ls) := fun ls a b d => if_pos ⟨h0, a, b, d⟩
   have kB : ∀ (l : List (List Int)) (r3 : Int × Cd), (∀ x ∈ l, isCo c.2.1.length 3 x) → l36b B22 B67 B68 B78 0 c r3 l = some (dbO c ((l.filter fun e => decide (3 ≤ e.length)).map tri) (([], [], ()), 14)) := by
    intro l r3
    induction l with
    | nil => intro _; rfl
    | cons x r ih =>
     intro hl
     have hx := hl x (by simp)
     rw [l36b, ih fun y hy => hl y (by simp [hy]), List.filter_cons]
     rw [show decide ((x.length : Int) < 3) = !decide (3 ≤ x.length) by rw [← decide_not]; exact decide_eq_decide.2 (by omega)]
     cases e3 : decide (3 ≤ x.length) with
     | false => rfl
     | true =>
      have h3 := of_decide_eq_true e3
      rw [Bool.not_true, cond_false, if_pos rfl, chk_dec (by omega), chk_dec (by omega), chk_dec (by omega), chk_dec (by omega), chk_dec (by omega), chk_dec (by omega), List.map_cons, dbO_cons]
      have e := e78 (tri x) (by simp [tri]) (by simp [tri]) (tri_ok hx h3)
      rw [show B78 c [[x.getD 0 0, x.getD 1 0], [x.getD 0 0, x.getD 2 0], [x.getD 1 0, x.getD 2 0]] = some (dbF c (tri x)) from e, Option.bind_some]
      cases (dbF c (tri x)).2 <;> rfl
   have kC : ∀ (l : List (List Int)) (a : List Int) (r7 : Int × Cd) (rec : Option (Db × Int)) (k : Db × Int), rec = some k → isCo c.2.1.length 2 a → (∀ x ∈ l, isCo c.2.1.length 2 x) → l36c B22 B67 B68 B78 0 c a r7 rec l = some (dbO c (l.map fun b => [a, b]) k) := by
    intro l a r7 rec k hrec ha
    induction l with
    | nil => intro _; exact hrec
    | cons x r ih =>
     intro hl
     have hx := hl x (by simp)
     have sa := okS_co hn.2 ha
     have sx := okS_co hn.2 hx
     obtain ⟨a1, a2, a3⟩ := okS_at sa
     obtain ⟨x1, x2, x3⟩ := okS_at sx
     rw [l36c, ih fun y hy => hl y (by simp [hy]), chk_of (by rw [Bool.and_true]; exact decide_eq_true a1)]
     simp only [B68, if_pos (show a.length ≤ 1000 by omega), if_pos (show x.length ≤ 1000 by omega), Option.bind_some]
     rw [chk_of (by rw [Bool.and_true]; exact decide_eq_true x1), e78 [a, x] (by simp) (by simp) (by simp [sa, sx]), Option.bind_some, List.map_cons, dbO_cons]
     cases (dbF c [a, x]).2 <;> rfl
   have kA : ∀ (l : List (List Int)) (r2 : Int × Cd), (∀ x ∈ l, isCo c.2.1.length 2 x) → l36a B22 B67 B68 B78 0 c r2 l = some (dbO c (l.flatMap fun a => (co c.2.1.length 2).map fun b => [a, b]) (dbO c (trs c.2.1.length) (([], [], ()), 14))) := by
    intro l r2
    induction l with
    | nil =>
     intro _
     simp only [l36a, B67, Option.bind_some]
     rw [chk_dec (by omega), gr_co]
     exact kB _ _ fun x hx => co_mem.1 hx
    | cons x r ih =>
     intro hl
     simp only [l36a, B67, Option.bind_some]
     rw [chk_dec (by omega), gr_co, List.flatMap_cons, dbO_app]
     exact kC _ x _ _ _ (ih fun y hy => hl y (by simp [hy])) (hl x (by simp)) fun y hy => co_mem.1 hy
   rw [cands, dbO_app]
   exact kA _ _ fun x hx => co_mem.1 hx
 ·cases h⟩
end Go.Proofs.YtbjfbbfglkmadaaDoor
