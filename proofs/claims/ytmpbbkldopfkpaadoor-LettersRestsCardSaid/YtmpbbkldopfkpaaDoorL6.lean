/-
  Rests and common beginnings.
-/
import Derived.Test.YtmpbbkldopfkpaaDoorL5
import Derived.Test.YtmpbbkldopfkpaaDoorQM23
import Derived.Test.YtmpbbkldopfkpaaDoorQM25
namespace Go.Proofs.YtmpbbkldopfkpaaDoor
open Go.RowKit
set_option linter.unusedVariables false

theorem kb23 : FnOk Tryd.prog 23 (F23 B22) := ok23 B45 B54 B55 kb45 kb54 kb55 B22 fun o a b r h => ⟨20, by
  obtain rfl := Option.some.inj h
  unfold m23
  show (B54 o a b).bind _ = _
  unfold B54
  rw [Option.bind_some]
  by_cases he : errA o [a, b] = 0
  · obtain ⟨h1, h2⟩ := errA_word he (l := a) (by simp)
    obtain ⟨h3, h4⟩ := errA_word he (l := b) (by simp)
    have h0 := (errA_zero he).1
    rw [he, if_pos rfl]
    show cond false _ _ = _
    rw [cond_false]
    refine rangeIx a 0 (fun n (s : Wd) t => l23a B45 B54 B55 20 o a n s t) (fun t r s => s.length ≤ 14 ∧ Ls o s ∧ ∀ c ∈ r, c ∈ a) (fun t r s => some (match rst (Do o) r s with
      | some q => (nfo o q, 0)
      | none => ([], 14))) (fun n s t x rest q1 q2 hI ih => ?_) (fun n s hI => ?_) 20 b (by omega) ⟨h3, h4, fun c hc => hc⟩
    · show l23a B45 B54 B55 20 o a (n + 1) s (t : Int) = _
      obtain ⟨i1, i2, i3⟩ := hI
      have hx : isL x := h2.isL h0 x (i3 x (by simp))
      rw [l23a, ixA q1, cond_true, ixB q1, chk_true, Int.toNat_natCast, q2, ixW q1 (by omega), B55_of h0 (by omega) (i2.isL h0) hx, Option.bind_some]
      simp only [rst]
      rcases opI_tk (D := Do o) (x := x) s 0 with ⟨e1, e2⟩ | ⟨i, e1, e2, e3, e4⟩
      · rw [e1, e2]; rfl
      · rw [Nat.zero_add] at e1
        have hq : (s.take i ++ s.drop (i + 1)).length ≤ 14 := by have := tk_len e4; omega
        rw [e1, e4, decide_eq_false (by omega), cond_false, w64_succ (by omega), Int.toNat_natCast, Int.toNat_natCast, Option.bind_some]
        have hq' := hq
        rw [List.length_append] at hq'
        rw [chk_dec (by omega), chk_dec (by omega), chk_dec (by omega)]
        exact ih _ ⟨hq, fun z hz => i2 z ((tk_mem e4).2 z hz), fun c hc => i3 c (by simp [hc])⟩
    · show l23a B45 B54 B55 20 o a (n + 1) s (a.length : Int) = _
      obtain ⟨i1, i2, _⟩ := hI
      rw [l23a, ixE, cond_false, B45_of h0 (by omega) i2]; rfl
  · have : (errA o [a, b] != 0) = true := by simpa using he
    rw [this, cond_true, if_neg he]⟩
def tk2 (D : UInt8 → UInt8 → Bool) (x : UInt8) (a b : Wd) : Option (UInt8 × Wd × Wd) := (tk D x a).bind fun a' => (tk D x b).map fun b' => (x, a', b')
def cmn (D : UInt8 → UInt8 → Bool) (ks : Wd) : Nat → Wd → Wd → Wd
  | 0, _, _ => []
  | n + 1, a, b => match ks.findSome? fun x => tk2 D x a b with
    | some p => p.1 :: cmn D ks n p.2.1 p.2.2
    | none => []
def cmo (o : Of) (a b : Wd) : Wd := cmn (Do o) abc a.length a b
theorem tk2_some {D : UInt8 → UInt8 → Bool} {x : UInt8} {a b : Wd} {p : UInt8 × Wd × Wd} (h : tk2 D x a b = some p) : p.1 = x ∧ tk D x a = some p.2.1 ∧ tk D x b = some p.2.2 := by
  obtain ⟨a', h1, h2⟩ := Option.bind_eq_some_iff.1 h
  obtain ⟨b', h3, rfl⟩ := Option.map_eq_some_iff.1 h2
  exact ⟨rfl, h1, h3⟩
theorem tk2_none {D : UInt8 → UInt8 → Bool} {x : UInt8} {a b : Wd} (h : tk D x a = none ∨ tk D x b = none) : tk2 D x a b = none := by
  unfold tk2
  rcases h with h | h
  · rw [h]; rfl
  · rw [h]; cases tk D x a <;> rfl
def B25 : Of → Wd → Wd → Option (Wd × Int) := fun o a b => some (if errA o [a, b] = 0 then (nfo o (cmo o a b), 0) else ([], errA o [a, b]))
theorem l25b_pick {o : Of} (h0 : errO o = 0) (N : Nat) (rec : Wd → Wd → Wd → Bool → Option (Wd × Int)) {a b out : Wd} (ha : a.length ≤ 14) (hb : b.length ≤ 14) (la : Ls o a) (lb : Ls o b) (ho : out.length ≤ 1000) :
    ∀ (m : Nat) (c : Nat), 97 ≤ c → c ≤ 103 → 103 - c + 1 < m → l25b B45 B54 B55 N o rec m a b out false (c : Int) = match (abc.drop (c - 97)).findSome? fun x => tk2 (Do o) x a b with
      | some p => rec p.2.1 p.2.2 (out ++ [p.1]) true
      | none => rec a b out false
  | 0, c, _, _, h => by omega
  | m + 1, c, h1, h2, h3 => by
    by_cases hc : c = 103
    · subst hc
      rw [l25b, decide_eq_false (by decide), cond_false]; rfl
    · obtain ⟨x, hx, hxn, hdrop⟩ := abc_step h1 (by omega)
      have ih := l25b_pick h0 N rec ha hb la lb ho m (c + 1) (by omega) (by omega) (by omega)
      rw [l25b, decide_eq_true (by omega), cond_true, Bool.not_false, cond_true, hdrop, List.findSome?_cons, ← hxn, B55_of h0 (by omega) (la.isL h0) hx, Option.bind_some, B55_of h0 (by omega) (lb.isL h0) hx, Option.bind_some, hxn, wrap_u8 (by omega) (by omega), show ((c : Int) + 1) = ((c + 1 : Nat) : Int) by omega, ih]
      rcases opI_tk (D := Do o) (x := x) a 0 with ⟨e1, e2⟩ | ⟨i, e1, e2, e3, e4⟩
      · rw [e1, decide_eq_false (by decide), cond_false, tk2_none (.inl e2)]
      · rcases opI_tk (D := Do o) (x := x) b 0 with ⟨f1, f2⟩ | ⟨k, f1, f2, f3, f4⟩
        · rw [f1, decide_eq_false (p := (-1 : Int) ≥ 0) (by decide), cond_false, tk2_none (.inr f2), e1, decide_eq_true (by omega), cond_true]
        · rw [Nat.zero_add] at e1 f1
          have e5 := take_one e3
          have hq := tk_len e4
          have hr := tk_len f4
          rw [List.length_append] at hq hr
          have et : tk2 (Do o) x a b = some (x, a.take i ++ a.drop (i + 1), b.take k ++ b.drop (k + 1)) := by unfold tk2; rw [e4, f4]; rfl
          rw [e1, f1, et, decide_eq_true (p := ((i : Nat) : Int) ≥ 0) (by omega), cond_true, decide_eq_true (p := ((k : Nat) : Int) ≥ 0) (by omega), cond_true, w64_succ (by omega), w64_succ (by omega)]
          rw [Int.toNat_natCast i, Int.toNat_natCast (i + 1), Int.toNat_natCast k, Int.toNat_natCast (k + 1), e5]
          rw [chk_dec (by omega), chk_dec (by simp only [List.length_cons, List.length_nil]; omega), chk_dec (by omega), chk_dec (by omega), chk_dec (by omega), chk_dec (by omega), chk_dec (by omega), chk_dec (by omega)]
          obtain ⟨m, rfl⟩ : ∃ k, m = k + 1 := ⟨m - 1, by omega⟩
          rw [l25b]
          simp only [Bool.not_true, cond_false]
          cases decide (((c + 1 : Nat) : Int) < 103) <;> rfl
theorem common25 {o : Of} (h0 : errO o = 0) (N : Nat) (hN : 10 ≤ N) : ∀ (n : Nat) (a b out : Wd), a.length + 1 < n → a.length ≤ 14 → b.length ≤ 14 → Ls o a → Ls o b → out.length + a.length ≤ 14 → Ls o out →
    l25a B45 B54 B55 N o n a b out true = some (nfo o (out ++ cmo o a b), 0)
  | 0, a, b, out, h, _, _, _, _, _, _ => by omega
  | n + 1, a, b, out, h, ha, hb, la, lb, ho, lo => by
    rw [l25a, cond_true]
    have := l25b_pick h0 N (fun y0 y1 y2 y3 => l25a B45 B54 B55 N o n y0 y1 y2 y3) ha hb la lb (out := out) (by omega) N 97 (by omega) (by omega) (by omega)
    rw [show ((97 : Nat) : Int) = 97 from rfl] at this
    rw [this]
    have hstop : ∀ m a' b' out', Ls o out' → out'.length ≤ 100 → 0 < m → l25a B45 B54 B55 N o m a' b' out' false = some (nfo o out', 0) := fun m a' b' out' l1 l2 hm => by
      obtain ⟨m, rfl⟩ : ∃ k, m = k + 1 := ⟨m - 1, by omega⟩
      rw [l25a, cond_false, B45_of h0 l2 l1]; rfl
    cases hp : (abc.drop (97 - 97)).findSome? fun x => tk2 (Do o) x a b with
    | none =>
      have e : cmo o a b = [] := by
        unfold cmo
        cases ha' : a.length with
        | zero => rfl
        | succ k =>
          simp only [cmn]
          rw [show (abc.findSome? fun x => tk2 (Do o) x a b) = none from hp]
      simp only
      rw [hstop n a b out lo (by omega) (by omega), e, List.append_nil]
    | some p =>
      obtain ⟨x, hx, h2⟩ := List.exists_of_findSome?_eq_some hp
      obtain ⟨e1, e2, e3⟩ := tk2_some h2
      have q2 := tk_len e2
      have q3 := tk_len e3
      have e : cmo o a b = p.1 :: cmo o p.2.1 p.2.2 := by
        unfold cmo
        rw [q2]
        simp only [cmn]
        rw [show (abc.findSome? fun x => tk2 (Do o) x a b) = some p from hp]
      simp only
      have lx : Ls o [p.1] := fun z hz => by
        obtain rfl := List.mem_singleton.1 hz
        rw [e1]; exact la x (tk_mem e2).1
      rw [common25 h0 N hN n p.2.1 p.2.2 (out ++ [p.1]) (by omega) (by omega) (by omega) (fun z hz => la z ((tk_mem e2).2 z hz)) (fun z hz => lb z ((tk_mem e3).2 z hz)) (by simp only [List.length_append, List.length_cons, List.length_nil]; omega) (fun z hz => by
        rcases List.mem_append.1 hz with hz | hz
        · exact lo z hz
        · exact lx z hz), e, List.append_assoc]
      rfl
theorem kb25 : FnOk Tryd.prog 25 (F25 B25) := ok25 B45 B54 B55 kb45 kb54 kb55 B25 fun o a b r h => ⟨20, by
  obtain rfl := Option.some.inj h
  unfold m25
  show (B54 o a b).bind _ = _
  unfold B54
  rw [Option.bind_some]
  by_cases he : errA o [a, b] = 0
  · obtain ⟨h1, h2⟩ := errA_word he (l := a) (by simp)
    obtain ⟨h3, h4⟩ := errA_word he (l := b) (by simp)
    have h0 := (errA_zero he).1
    rw [he, if_pos rfl]
    show cond false _ _ = _
    rw [cond_false]
    exact common25 h0 20 (by omega) 20 a b [] (by omega) h1 h3 h2 h4 (by simp only [List.length_nil]; omega) (fun z hz => by cases hz)
  · have : (errA o [a, b] != 0) = true := by simpa using he
    rw [this, cond_true, if_neg he]⟩
theorem kb70 : FnOk Tryd.prog 70 (F70 (m70 0)) := ok70 _ fun x r h => ⟨0, h⟩
def B56 : Int → Option Int := m56 (m70 0) 0
theorem kb56 : FnOk Tryd.prog 56 (F56 B56) := ok56 (m70 0) kb70 B56 fun x r h => ⟨0, h⟩
theorem masks : ((List.range 7).all fun k => (List.range k).all fun j =>
    decide (B56 ((2 ^ k - 2 ^ j : Nat) : Int) = some (j : Int)) && decide (bAnd .u64 ((2 ^ k - 2 ^ j : Nat) : Int) (IntKind.wrap .u64 (((2 ^ k - 2 ^ j : Nat) : Int) - 1)) = ((2 ^ k - 2 ^ (j + 1) : Nat) : Int)) && !(((2 ^ k - 2 ^ j : Nat) : Int) == 0)) = true := by kernel_rfl
theorem mask_at {k j : Nat} (hk : k ≤ 6) (hj : j < k) : B56 ((2 ^ k - 2 ^ j : Nat) : Int) = some (j : Int) ∧ bAnd .u64 ((2 ^ k - 2 ^ j : Nat) : Int) (IntKind.wrap .u64 (((2 ^ k - 2 ^ j : Nat) : Int) - 1)) = ((2 ^ k - 2 ^ (j + 1) : Nat) : Int) ∧ (((2 ^ k - 2 ^ j : Nat) : Int) != 0) = true := by
  have h := List.all_eq_true.1 masks k (List.mem_range.2 (by omega))
  have h := List.all_eq_true.1 h j (List.mem_range.2 hj)
  simp only [Bool.and_eq_true, decide_eq_true_eq] at h
  exact ⟨h.1.1, h.1.2, h.2⟩
theorem mask_full {k : Nat} (hk : k ≤ 6) : IntKind.wrap .u64 (IntKind.wrap .u64 (1 * 2 ^ min (Int.toNat (k : Int)) 64) - 1) = ((2 ^ k - 2 ^ 0 : Nat) : Int) := by
  have h2 : 2 ^ k ≤ 64 := by
    have : 2 ^ k ≤ 2 ^ 6 := Nat.pow_le_pow_right (by decide) hk
    simpa using this
  have h3 : 1 ≤ 2 ^ k := Nat.one_le_two_pow
  rw [Int.toNat_natCast, Nat.min_eq_left (by omega), Int.one_mul, pow_cast, wrap_u64 (by omega), show ((2 ^ k : Nat) : Int) - 1 = ((2 ^ k - 1 : Nat) : Int) by omega, wrap_u64 (by omega)]
def bytesI (w : Wd) : List Int := w.map fun b => (b.toNat : Int)
theorem toBytes_I (w : Wd) : toBytes (bytesI w) = w := by
  unfold toBytes bytesI
  rw [List.map_map]
  exact (List.map_congr_left fun b _ => by simp).trans (List.map_id w)
def cmj (o : Of) (j : Nat) (a b : Wd) : Wd := match (abc.drop j).findSome? fun x => tk2 (Do o) x a b with
  | some p => p.1 :: cmo o p.2.1 p.2.2
  | none => []
theorem cmj_zero (o : Of) (a b : Wd) : cmj o 0 a b = cmo o a b := by
  unfold cmj
  show (match abc.findSome? fun x => tk2 (Do o) x a b with
  | some p => p.1 :: cmo o p.2.1 p.2.2
  | none => []) = _
  cases hp : abc.findSome? fun x => tk2 (Do o) x a b with
  | none =>
    simp only
    unfold cmo
    cases a.length with
    | zero => rfl
    | succ k => simp only [cmn, hp]
  | some p =>
    obtain ⟨x, hx, h2⟩ := List.exists_of_findSome?_eq_some hp
    obtain ⟨e1, e2, e3⟩ := tk2_some h2
    have q2 := tk_len e2
    simp only
    unfold cmo
    rw [q2]
    simp only [cmn, hp]
theorem common24 {o : Of} (h0 : errO o = 0) {k : Nat} (hk : o.1 = (k : Int)) {a b : Wd} (ha : a.length ≤ 14) (hb : b.length ≤ 14) (la : Ls o a) (lb : Ls o b) (r1 : List Int × Int) (hr : r1.1 = deskO o) :
    ∀ (n j : Nat) (S T : List Nat) (out : Wd), S.length * 7 + (k - j) < n → j ≤ k → Vp (deskO o) a (Pl' S) → Vp (deskO o) b (Pl' T) → out.length + S.length ≤ 14 → Ls o out →
      l24a C41 B42 (A43 B53) B53 B56 200 o r1 n ((2 ^ k - 2 ^ j : Nat) : Int) (bytesI out) (deskO o) a (deskO o) b (Pl' S) (Pl' T) = some (nfo o (out ++ cmj o j (rmw a S) (rmw b T)), 0)
  | 0, j, S, T, out, h, _, _, _, _, _ => by omega
  | n + 1, j, S, T, out, h, hj, hS, hT, ho, lo => by
    have hk6 : k ≤ 6 := by have := (errO_zero h0).1; omega
    have sa : ∀ {S : List Nat}, Vp (deskO o) a (Pl' S) → Ls o (rmw a S) := fun hv z hz => la z (rmw_mem (by have := hv.2.2.2.2.2; rwa [kz_Pl] at this) hz)
    rw [l24a]
    by_cases hjk : j = k
    · subst hjk
      have e : cmj o j (rmw a S) (rmw b T) = [] := by
        unfold cmj
        have : ((abc.drop j).findSome? fun x => tk2 (Do o) x (rmw a S) (rmw b T)) = none := by
          rw [List.findSome?_eq_none_iff]
          intro x hx
          refine tk2_none (.inl (tk_notin fun hm => ?_))
          have h1 := sa hS x hm
          rw [hk] at h1
          have h2 : ∀ i, i < 7 → ∀ x ∈ abc.drop i, 97 + i ≤ x.toNat := by decide
          have := h2 j (by omega) x hx
          omega
        rw [this]
      rw [e, List.append_nil, Nat.sub_self]
      show (B42 r1.1 (toBytes (bytesI out))).bind _ = _
      rw [toBytes_I, hr, B42_word _ (by omega), Option.bind_some]
      simp only
      rw [A43_word h0 lo (Vp_word h0 (by omega) lo), rmw_range]; rfl
    · obtain ⟨m1, m2, m3⟩ := mask_at hk6 (show j < k by omega)
      obtain ⟨x, hx, hxn, hdrop⟩ := abc_step (c := 97 + j) (by omega) (by omega)
      rw [show 97 + j - 97 = j by omega, show 97 + j + 1 - 97 = j + 1 by omega] at hdrop
      have ek : IntKind.wrap .u8 (w64 (97 + (j : Int))) = (x.toNat : Int) := by
        rw [w64_eq (by omega) (by omega), wrap_u8 (by omega) (by omega)]; omega
      rw [m3, cond_true, m1, Option.bind_some, ek, m2]
      have hstep : tk2 (Do o) x (rmw a S) (rmw b T) = none → cmj o j (rmw a S) (rmw b T) = cmj o (j + 1) (rmw a S) (rmw b T) := fun hn => by
        unfold cmj
        rw [hdrop, List.findSome?_cons, hn]
      have ih := common24 h0 hk ha hb la lb r1 hr n (j + 1) S T out (by omega) (by omega) hS hT ho lo
      rcases B53_of h0 la hS x with ⟨i, e1, e2, e3⟩ | ⟨e1, e3⟩
      · rcases B53_of h0 lb hT x with ⟨i', f1, f2, f3⟩ | ⟨f1, f3⟩
        · rw [e1, Option.bind_some, f1, Option.bind_some]
          simp only [Bool.not_true, cond_false]
          have hl := tk_len e3
          rw [rmw_length, rmw_length] at hl
          have hbl : (bytesI out).length = out.length := List.length_map _
          rw [chk_of (small_of (by omega) (by decide)), chk_dec (by omega), hk, mask_full hk6]
          have em1 : mdel (kt := .int .i64) (vt := .bool) (Pl' S) ((i : Nat) : Int) = Pl' (S.erase i) := mdel_Pl i _
          have em2 : mdel (kt := .int .i64) (vt := .bool) (Pl' T) ((i' : Nat) : Int) = Pl' (T.erase i') := mdel_Pl i' _
          rw [em1, em2]
          have lx : Ls o [x] := fun z hz => by
            obtain rfl := List.mem_singleton.1 hz
            exact sa hS z (tk_mem e3).1
          have := common24 h0 hk ha hb la lb r1 hr n 0 (S.erase i) (T.erase i') (out ++ [x]) (by omega) (by omega) (hS.erase i) (hT.erase i') (by simp only [List.length_append, List.length_cons, List.length_nil]; omega) (fun z hz => by
            rcases List.mem_append.1 hz with hz | hz
            · exact lo z hz
            · exact lx z hz)
          have eo : bytesI out ++ [(x.toNat : Int)] = bytesI (out ++ [x]) := by unfold bytesI; rw [List.map_append]; rfl
          rw [eo, this, cmj_zero, List.append_assoc]
          congr 3
          unfold cmj
          have et : tk2 (Do o) x (rmw a S) (rmw b T) = some (x, rmw a (S.erase i), rmw b (T.erase i')) := by unfold tk2; rw [e3, f3]; rfl
          rw [hdrop, List.findSome?_cons, et]
          rfl
        · rw [e1, Option.bind_some, f1, Option.bind_some]
          simp only [Bool.not_true, Bool.not_false, cond_false, cond_true]
          rw [ih, hstep (tk2_none (.inr f3))]
      · obtain ⟨z2, z2', f1⟩ : ∃ z2 z2', B53 (x.toNat : Int) (deskO o) b (Pl' T) = some (z2, z2', deskO o, b, Pl' T) := by
          rcases B53_of h0 lb hT x with ⟨i', f1, _⟩ | ⟨f1, _⟩
          · exact ⟨_, _, f1⟩
          · exact ⟨_, _, f1⟩
        rw [e1, Option.bind_some, f1, Option.bind_some]
        simp only [Bool.not_false, cond_true]
        rw [ih, hstep (tk2_none (.inl e3))]
theorem kb24 : FnOk Tryd.prog 24 (F24 B25) := ok24 C41 B42 (A43 B53) B53 B56 kc41 kb42 (ok43 kb53) kb53 kb56 B25 fun o a b r h => ⟨200, by
  obtain rfl := Option.some.inj h
  unfold m24
  by_cases he : errA o [a, b] = 0
  · obtain ⟨h1, h2⟩ := errA_word he (l := a) (by simp)
    obtain ⟨h3, h4⟩ := errA_word he (l := b) (by simp)
    have h0 := (errA_zero he).1
    have hkk := (errO_zero h0).1
    obtain ⟨k, hk⟩ : ∃ k : Nat, o.1 = (k : Int) := ⟨o.1.toNat, by omega⟩
    rw [C41_good (by simp) he, if_pos he, Option.bind_some]
    show cond false _ _ = _
    rw [cond_false, B42_word _ h1, Option.bind_some, B42_word _ h3, Option.bind_some, chk_dec (by omega), hk, mask_full (by omega)]
    have := common24 h0 hk h1 h3 h2 h4 (deskO o, 0) rfl 200 0 (List.range a.length) (List.range b.length) [] (by rw [List.length_range]; omega) (by omega) (Vp_word h0 h1 h2) (Vp_word h0 h3 h4) (by rw [List.length_range]; simp only [List.length_nil]; omega) (fun z hz => by cases hz)
    rw [rmw_range, rmw_range, cmj_zero, List.nil_append] at this
    exact this
  · obtain ⟨d, hd⟩ := C41_bad (ls := [a, b]) (by simp) he
    rw [hd, if_neg he, Option.bind_some]
    have : (errA o [a, b] != 0) = true := by simpa using he
    simp only [this, cond_true]⟩
end Go.Proofs.YtmpbbkldopfkpaaDoor
