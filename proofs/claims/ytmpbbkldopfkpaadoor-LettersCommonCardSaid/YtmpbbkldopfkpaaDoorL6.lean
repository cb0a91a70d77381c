/-
 Rests and common beginnings.
-/
import Derived.Test.YtmpbbkldopfkpaaDoorL5
import Derived.Test.YtmpbbkldopfkpaaDoorQM23
import Derived.Test.YtmpbbkldopfkpaaDoorQM25
namespace Go.Proofs.YtmpbbkldopfkpaaDoor
open Go.RowKit
set_option linter.unusedVariables false

def tk2 (D : UInt8 → UInt8 → Bool) (x : UInt8) (a b : Wd) : Option (UInt8 × Wd × Wd) := (tk D x a).bind fun a' => (tk D x b).map fun b' => (x, a', b')
def cmn (D : UInt8 → UInt8 → Bool) (ks : Wd) : Nat → Wd → Wd → Wd
 | 0, _, _ => []
 | n + 1, a, b => match ks.findSome? fun x => tk2 D x a b with
  | some p => p.1 :: cmn D ks n p.2.1 p.2.2
  | none => []
def cmo (o : Of) (a b : Wd) : Wd := cmn (Do o) abc a.length a b
theorem tk2_some {D : UInt8 → UInt8 → Bool} {x : UInt8} {a b : Wd} {p : UInt8 × Wd × Wd} (h : tk2 D x a b = some p) : p.1 = x ∧ tk D x a = some p.2.1 ∧ tk D x b = some p.2.2 := by
 obtain ⟨a', h1, h2⟩ := Option.bind_eq_some_iff.1 h
 obtain ⟨b', h3, rfl⟩ := Option.map_eq_some_iff.1 h2
 exact ⟨rfl, h1, h3⟩
theorem tk2_none {D : UInt8 → UInt8 → Bool} {x : UInt8} {a b : Wd} (h : tk D x a = none ∨ tk D x b = none) : tk2 D x a b = none := by
 unfold tk2
 rcases h with h | h
 ·rw [h]; rfl
 ·rw [h]; cases tk D x a <;> rfl
theorem cmn_sub {D : UInt8 → UInt8 → Bool} {ks : Wd} : ∀ (n : Nat) (a b : Wd), (∀ z ∈ cmn D ks n a b, z ∈ a) ∧ (cmn D ks n a b).length ≤ a.length
 | 0, a, b => ⟨by simp [cmn], by simp [cmn]⟩
 | n + 1, a, b => by
  simp only [cmn]
  cases hp : ks.findSome? fun x => tk2 D x a b with
  | none => exact ⟨by simp, by simp⟩
  | some p =>
   obtain ⟨x, hx, h2⟩ := List.exists_of_findSome?_eq_some hp
   obtain ⟨e1, e2, e3⟩ := tk2_some h2
   obtain ⟨i1, i2⟩ := cmn_sub (D := D) (ks := ks) n p.2.1 p.2.2
   have hl := tk_len e2
   obtain ⟨m1, m2⟩ := tk_mem e2
   refine ⟨fun z hz => ?_, by simp only [List.length_cons]; omega⟩
   rcases List.mem_cons.1 hz with rfl | hz
   ·rw [e1]; exact m1
   ·exact m2 z (i1 z hz)
def B25 : Of → Wd → Wd → Option (Wd × Int) := fun o a b => some (if errA o [a, b] = 0 then (nfo o (cmo o a b), 0) else ([], errA o [a, b]))
theorem kb70 : FnOk Tryd.prog 70 (F70 (m70 0)) := ok70 _ fun x r h => ⟨0, h⟩
def B56 : Int → Option Int := m56 (m70 0) 0
theorem kb56 : FnOk Tryd.prog 56 (F56 B56) := ok56 (m70 0) kb70 B56 fun x r h => ⟨0, h⟩
theorem masks : ((List.range 7).all fun k => (List.range k).all fun j =>
  decide (B56 ((2 ^ k - 2 ^ j : Nat) : Int) = some (j : Int)) && decide (bAnd .u64 ((2 ^ k - 2 ^ j : Nat) : Int) (IntKind.wrap .u64 (((2 ^ k - 2 ^ j : Nat) : Int) - 1)) = ((2 ^ k - 2 ^ (j + 1) : Nat) : Int)) && !(((2 ^ k - 2 ^ j : Nat) : Int) == 0)) = true := by kernel_rfl
theorem mask_at {k j : Nat} (hk : k ≤ 6) (hj : j < k) : B56 ((2 ^ k - 2 ^ j : Nat) : Int) = some (j : Int) ∧ bAnd .u64 ((2 ^ k - 2 ^ j : Nat) : Int) (IntKind.wrap .u64 (((2 ^ k - 2 ^ j : Nat) : Int) - 1)) = ((2 ^ k - 2 ^ (j + 1) : Nat) : Int) ∧ (((2 ^ k - 2 ^ j : Nat) : Int) != 0) = true := by
 have h := List.all_eq_true.1 masks k (List.mem_range.2 (by omega))
 have h := List.all_eq_true.1 h j (List.mem_range.2 hj)
 simp only [Bool.and_eq_true, decide_eq_true_eq] at h
 exact ⟨h.1.1, h.1.2, h.2⟩
theorem mask_full {k : Nat} (hk : k ≤ 6) : IntKind.wrap .u64 (IntKind.wrap .u64 (1 * 2 ^ min (Int.toNat (k : Int)) 64) - 1) = ((2 ^ k - 2 ^ 0 : Nat) : Int) := by
 have h2 : 2 ^ k ≤ 64 := by
  have : 2 ^ k ≤ 2 ^ 6 := Nat.pow_le_pow_right (by decide) hk
  simpa using this
 have h3 : 1 ≤ 2 ^ k := Nat.one_le_two_pow
 rw [Int.toNat_natCast, Nat.min_eq_left (by omega), Int.one_mul, pow_cast, wrap_u64 (by omega), show ((2 ^ k : Nat) : Int) - 1 = ((2 ^ k - 1 : Nat) : Int) by omega, wrap_u64 (by omega)]
def cmj (o : Of) (j : Nat) (a b : Wd) : Wd := match (abc.drop j).findSome? fun x => tk2 (Do o) x a b with
 | some p => p.1 :: cmo o p.2.1 p.2.2
 | none => []
theorem cmj_zero (o : Of) (a b : Wd) : cmj o 0 a b = cmo o a b := by
 unfold cmj
 show (match abc.findSome? fun x => tk2 (Do o) x a b with
 | some p => p.1 :: cmo o p.2.1 p.2.2
 | none => []) = _
 cases hp : abc.findSome? fun x => tk2 (Do o) x a b with
 | none =>
  simp only
  unfold cmo
  cases a.length with
  | zero => rfl
  | succ k => simp only [cmn, hp]
 | some p =>
  obtain ⟨x, hx, h2⟩ := List.exists_of_findSome?_eq_some hp
  obtain ⟨e1, e2, e3⟩ := tk2_some h2
  have q2 := tk_len e2
  simp only
  unfold cmo
  rw [q2]
  simp only [cmn, hp]
theorem common24 {o : Of} (h0 : errO o = 0) {k : Nat} (hk : o.1 = (k : Int)) {a b : Wd} (ha : a.length ≤ 14) (hb : b.length ≤ 14) (la : Ls o a) (lb : Ls o b) (r1 : List Int × Int) (hr : r1.1 = deskO o) :
  ∀ (n j : Nat) (S T : List Nat) (out : Wd), S.length * 7 + (k - j) < n → j ≤ k → Vp (deskO o) a (Pl' S) → Vp (deskO o) b (Pl' T) → out.length + S.length ≤ 14 → Ls o out →
   l24a C41 B42 (A43 B53) B53 B56 200 o r1 n ((2 ^ k - 2 ^ j : Nat) : Int) (bytesI out) (deskO o) a (deskO o) b (Pl' S) (Pl' T) = some (nfo o (out ++ cmj o j (rmw a S) (rmw b T)), 0)
 | 0, j, S, T, out, h, _, _, _, _, _ => by omega
 | n + 1, j, S, T, out, h, hj, hS, hT, ho, lo => by
  have hk6 : k ≤ 6 := by have := (errO_zero h0).1; omega
  have sa : ∀ {S : List Nat}, Vp (deskO o) a (Pl' S) → Ls o (rmw a S) := fun hv z hz => la z (rmw_mem (by have := hv.2.2.2.2.2; rwa [kz_Pl] at this) hz)
  rw [l24a]
  by_cases hjk : j = k
  ·subst hjk
   have e : cmj o j (rmw a S) (rmw b T) = [] := by
    unfold cmj
    have : ((abc.drop j).findSome? fun x => tk2 (Do o) x (rmw a S) (rmw b T)) = none := by
     rw [List.findSome?_eq_none_iff]
     intro x hx
     refine tk2_none (.inl (tk_notin fun hm => ?_))
     have h1 := sa hS x hm
     rw [hk] at h1
     have h2 : ∀ i, i < 7 → ∀ x ∈ abc.drop i, 97 + i ≤ x.toNat := by decide
     have := h2 j (by omega) x hx
     omega
    rw [this]
   rw [e, List.append_nil, Nat.sub_self]
   show (B42 r1.1 (toBytes (bytesI out))).bind _ = _
   rw [toBytes_I, hr, B42_word _ (by omega), Option.bind_some]
   simp only
   rw [A43_word h0 lo (Vp_word h0 (by omega) lo), rmw_range]; rfl
  ·obtain ⟨m1, m2, m3⟩ := mask_at hk6 (show j < k by omega)
   obtain ⟨x, hx, hxn, hdrop⟩ := abc_step (c := 97 + j) (by omega) (by omega)
   rw [show 97 + j - 97 = j by omega, show 97 + j + 1 - 97 = j + 1 by omega] at hdrop
   have ek : IntKind.wrap .u8 (w64 (97 + (j : Int))) = (x.toNat : Int) := by
    rw [w64_eq (by omega) (by omega), wrap_u8 (by omega) (by omega)]; omega
   rw [m3, cond_true, m1, Option.bind_some, ek, m2]
   have hstep : tk2 (Do o) x (rmw a S) (rmw b T) = none → cmj o j (rmw a S) (rmw b T) = cmj o (j + 1) (rmw a S) (rmw b T) := fun hn => by
    unfold cmj
    rw [hdrop, List.findSome?_cons, hn]
   have ih := common24 h0 hk ha hb la lb r1 hr n (j + 1) S T out (by omega) (by omega) hS hT ho lo
   rcases B53_of h0 la hS x with ⟨i, e1, e2, e3⟩ | ⟨e1, e3⟩
   ·rcases B53_of h0 lb hT x with ⟨i', f1, f2, f3⟩ | ⟨f1, f3⟩
    ·rw [e1, Option.bind_some, f1, Option.bind_some]
     simp only [Bool.not_true, cond_false]
     have hl := tk_len e3
     rw [rmw_length, rmw_length] at hl
     have hbl : (bytesI out).length = out.length := List.length_map _
     rw [chk_of (small_of (by omega) (by decide)), chk_dec (by omega), hk, mask_full hk6]
     have em1 : mdel (kt := .int .i64) (vt := .bool) (Pl' S) ((i : Nat) : Int) = Pl' (S.erase i) := mdel_Pl i _
     have em2 : mdel (kt := .int .i64) (vt := .bool) (Pl' T) ((i' : Nat) : Int) = Pl' (T.erase i') := mdel_Pl i' _
     rw [em1, em2]
     have lx : Ls o [x] := fun z hz => by
      obtain rfl := List.mem_singleton.1 hz
      exact sa hS z (tk_mem e3).1
     have := common24 h0 hk ha hb la lb r1 hr n 0 (S.erase i) (T.erase i') (out ++ [x]) (by omega) (by omega) (hS.erase i) (hT.erase i') (by simp only [List.length_append, List.length_cons, List.length_nil]; omega) (fun z hz => by
      rcases List.mem_append.1 hz with hz | hz
      ·exact lo z hz
      ·exact lx z hz)
     have eo : bytesI out ++ [(x.toNat : Int)] = bytesI (out ++ [x]) := by unfold bytesI; rw [List.map_append]; rfl
     rw [eo, this, cmj_zero, List.append_assoc]
     congr 3
     unfold cmj
     have et : tk2 (Do o) x (rmw a S) (rmw b T) = some (x, rmw a (S.erase i), rmw b (T.erase i')) := by unfold tk2; rw [e3, f3]; rfl
     rw [hdrop, List.findSome?_cons, et]
     rfl
    ·rw [e1, Option.bind_some, f1, Option.bind_some]
     simp only [Bool.not_true, Bool.not_false, cond_false, cond_true]
     rw [ih, hstep (tk2_none (.inr f3))]
   ·obtain ⟨z2, z2', f1⟩ : ∃ z2 z2', B53 (x.toNat : Int) (deskO o) b (Pl' T) = some (z2, z2', deskO o, b, Pl' T) := by
     rcases B53_of h0 lb hT x with ⟨i', f1, _⟩ | ⟨f1, _⟩
     ·exact ⟨_, _, f1⟩
     ·exact ⟨_, _, f1⟩
    rw [e1, Option.bind_some, f1, Option.bind_some]
    simp only [Bool.not_false, cond_true]
    rw [ih, hstep (tk2_none (.inl e3))]
theorem kb24 : FnOk Tryd.prog 24 (F24 B25) := ok24 C41 B42 (A43 B53) B53 B56 kc41 kb42 (ok43 kb53) kb53 kb56 B25 fun o a b r h => ⟨200, by
 obtain rfl := Option.some.inj h
 unfold m24
 by_cases he : errA o [a, b] = 0
 ·obtain ⟨h1, h2⟩ := errA_word he (l := a) (by simp)
  obtain ⟨h3, h4⟩ := errA_word he (l := b) (by simp)
  have h0 := (errA_zero he).1
  have hkk := (errO_zero h0).1
  obtain ⟨k, hk⟩ : ∃ k : Nat, o.1 = (k : Int) := ⟨o.1.toNat, by omega⟩
  rw [C41_good (by simp) he, if_pos he, Option.bind_some]
  show cond false _ _ = _
  rw [cond_false, B42_word _ h1, Option.bind_some, B42_word _ h3, Option.bind_some, chk_dec (by omega), hk, mask_full (by omega)]
  have := common24 h0 hk h1 h3 h2 h4 (deskO o, 0) rfl 200 0 (List.range a.length) (List.range b.length) [] (by rw [List.length_range]; omega) (by omega) (Vp_word h0 h1 h2) (Vp_word h0 h3 h4) (by rw [List.length_range]; simp only [List.length_nil]; omega) (fun z hz => by cases hz)
  rw [rmw_range, rmw_range, cmj_zero, List.nil_append] at this
  exact this
 ·obtain ⟨d, hd⟩ := C41_bad (ls := [a, b]) (by simp) he
  rw [hd, if_neg he, Option.bind_some]
  have : (errA o [a, b] != 0) = true := by simpa using he
  simp only [this, cond_true]⟩
end Go.Proofs.YtmpbbkldopfkpaaDoor
