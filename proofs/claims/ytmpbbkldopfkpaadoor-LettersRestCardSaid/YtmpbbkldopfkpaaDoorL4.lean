/-
 First, Rest and Same, in plain words.
-/
import Derived.Test.YtmpbbkldopfkpaaDoorL3
namespace Go.Proofs.YtmpbbkldopfkpaaDoor
open Go.RowKit
set_option linter.unusedVariables false

section
variable {D E : UInt8 → UInt8 → Bool}

theorem tk_notin {x : UInt8} {l : Wd} (h : x ∉ l) : tk D x l = none := by
 cases ht : tk D x l with
 | none => rfl
 | some l' => exact absurd (tk_mem ht).1 h
theorem tk_congr' {x : UInt8} : ∀ {l : Wd}, (∀ y ∈ l, D y x = E y x) → tk D x l = tk E x l
 | [], _ => rfl
 | y :: r, h => by
  simp only [tk]
  rw [h y (by simp), tk_congr' fun z hz => h z (by simp [hz])]
theorem tk_congr {l : Wd} (h : ∀ x ∈ l, ∀ y ∈ l, D x y = E x y) (x : UInt8) : tk D x l = tk E x l := by
 by_cases hx : x ∈ l
 ·exact tk_congr' fun y hy => h y hy x hx
 ·rw [tk_notin hx, tk_notin hx]
theorem pick_congr {l : Wd} (h : ∀ x ∈ l, ∀ y ∈ l, D x y = E x y) (ks : Wd) : pick D ks l = pick E ks l := by
 unfold pick
 congr 1
 funext x
 rw [tk_congr h]
theorem nf_congr (ks : Wd) : ∀ (n : Nat) {l : Wd}, (∀ x ∈ l, ∀ y ∈ l, D x y = E x y) → nf D ks n l = nf E ks n l
 | 0, l, h => rfl
 | n + 1, l, h => by
  simp only [nf, pick_congr h]
  cases hp : pick E ks l with
  | none => rfl
  | some p =>
   have hm := (tk_mem (pick_some hp).2).2
   simp only [nf_congr ks n fun x hx y hy => h x (hm x hx) y (hm y hy)]
theorem rst_mem : ∀ {a l r : Wd}, rst D a l = some r → ∀ z ∈ r, z ∈ l
 | [], l, r, h, z, hz => by obtain rfl := Option.some.inj h; exact hz
 | x :: a, l, r, h, z, hz => by
  obtain ⟨l', h1, h2⟩ := Option.bind_eq_some_iff.1 h
  exact (tk_mem h1).2 z (rst_mem h2 z hz)
end

def Ls (o : Of) (l : Wd) : Prop := ∀ b ∈ l, 97 ≤ (b.toNat : Int) ∧ (b.toNat : Int) ≤ 97 + o.1 - 1
theorem Dk_Do {o : Of} (h : errO o = 0) {l : Wd} (hl : Ls o l) : ∀ x ∈ l, ∀ y ∈ l, Dk (deskO o) x y = Do o x y := fun x hx y hy =>
 Dk_deskO h (by have := hl x hx; omega) (by have := hl y hy; omega)
theorem Ls.isL {o : Of} (h : errO o = 0) {l : Wd} (hl : Ls o l) : ∀ b ∈ l, isL b := fun b hb => by
 have := hl b hb
 have := (errO_zero h).1
 unfold Go.Proofs.YtmpbbkldopfkpaaDoor.isL; omega
theorem Ls.abc {o : Of} (h : errO o = 0) {l : Wd} (hl : Ls o l) : ∀ b ∈ l, b ∈ abc := fun b hb => isL_abc (hl.isL h b hb)
theorem Ls.refl {o : Of} (h : errO o = 0) {l : Wd} (hl : Ls o l) : ∀ b ∈ l, Dk (deskO o) b b = true := fun b hb => Dk_refl h (hl b hb)
def errA (o : Of) (ls : List Wd) : Int := if errO o = 0 then errL o.1 ls else errO o
theorem errA_zero {o : Of} {ls : List Wd} (h : errA o ls = 0) : errO o = 0 ∧ errL o.1 ls = 0 := by
 unfold errA at h
 split at h
 ·rename_i h0; exact ⟨h0, h⟩
 ·rename_i h0; exact absurd h h0
theorem errL_zero {k : Int} : ∀ {ls : List Wd}, errL k ls = 0 → ∀ l ∈ ls, errL1 k l = 0
 | [], _, l, hl => by cases hl
 | a :: ls, h, l, hl => by
  unfold errL at h
  split at h
  ·rename_i h0
   rcases List.mem_cons.1 hl with rfl | hl
   ·exact h0
   ·exact errL_zero h l hl
  ·rename_i h0; exact absurd h h0
theorem errA_word {o : Of} {ls : List Wd} (h : errA o ls = 0) {l : Wd} (hl : l ∈ ls) : l.length ≤ 14 ∧ Ls o l := errL1_zero (errL_zero (errA_zero h).2 l hl)
def C41 : Of → List Wd → Option (List Int × Int) := fun o ls => if ls.length < 1000 then B41 o ls else none
theorem kc41 : FnOk Tryd.prog 41 (F41 C41) := kb41
theorem C41_bad {o : Of} {ls : List Wd} (hl : ls.length < 1000) (h : errA o ls ≠ 0) : ∃ d, C41 o ls = some (d, errA o ls) := by
 unfold C41 B41 errA
 rw [if_pos hl]
 by_cases h0 : errO o = 0
 ·rw [if_pos h0, if_pos h0]; exact ⟨_, rfl⟩
 ·rw [if_neg h0, if_neg h0]; exact ⟨_, rfl⟩
theorem C41_good {o : Of} {ls : List Wd} (hl : ls.length < 1000) (h : errA o ls = 0) : C41 o ls = some (deskO o, 0) := by
 obtain ⟨h0, h1⟩ := errA_zero h
 unfold C41 B41
 rw [if_pos hl, if_pos h0, h1]
theorem Vp_word {o : Of} (h : errO o = 0) {l : Wd} (hl : l.length ≤ 14) (hw : Ls o l) : Vp (deskO o) l (Pl' (List.range l.length)) :=
 Vp_range (deskO_ok o) (hw.isL h) (by omega)
theorem B42_word (d : List Int) {l : Wd} (hl : l.length ≤ 14) : B42 d l = some (Pl' (List.range l.length), d, l) := by
 unfold B42; rw [if_pos (by omega)]
def nfo (o : Of) (l : Wd) : Wd := nf (Do o) abc l.length l
theorem A43_word {o : Of} (h : errO o = 0) {l : Wd} (hw : Ls o l) {S : List Nat} (hv : Vp (deskO o) l (Pl' S)) : A43 B53 (deskO o) l (Pl' S) = some (nfo o (rmw l S), deskO o, l, []) := by
 rw [A43_nf (hw.refl h) hv]
 unfold nfo
 rw [rmw_length, nf_congr abc _ fun x hx y hy => ?_]
 have hlt : ∀ k ∈ S, k < l.length := by have := hv.2.2.2.2.2; rwa [kz_Pl] at this
 exact Dk_Do h hw x (rmw_mem hlt hx) y (rmw_mem hlt hy)
def B13 : Of → Wd → Option (Wd × Int) := fun o l => some (if errA o [l] = 0 then (nfo o l, 0) else ([], errA o [l]))
theorem kb13 : FnOk Tryd.prog 13 (F13 B13) := ok13 C41 B42 (A43 B53) kc41 kb42 (ok43 kb53) B13 fun o l r h => ⟨0, by
 obtain rfl := Option.some.inj h
 unfold m13
 by_cases he : errA o [l] = 0
 ·obtain ⟨h1, h2⟩ := errA_word he (l := l) (by simp)
  have h0 := (errA_zero he).1
  rw [C41_good (by simp) he, if_pos he, Option.bind_some]
  show cond false _ _ = _
  rw [cond_false, B42_word _ h1, Option.bind_some]
  simp only
  rw [A43_word h0 h2 (Vp_word h0 h1 h2), rmw_range]; rfl
 ·obtain ⟨d, hd⟩ := C41_bad (ls := [l]) (by simp) he
  rw [hd, if_neg he, Option.bind_some]
  have : (errA o [l] != 0) = true := by simpa using he
  simp only [this, cond_true]⟩
def B22 : Of → Wd → Wd → Option (Wd × Int) := fun o a b => some (if errA o [a, b] = 0 then (match rst (Do o) a b with
 | some r => (nfo o r, 0)
 | none => ([], 14)) else ([], errA o [a, b]))
theorem B53_of {o : Of} (h : errO o = 0) {l : Wd} (hw : Ls o l) {S : List Nat} (hv : Vp (deskO o) l (Pl' S)) (x : UInt8) :
  (∃ i : Nat, B53 (x.toNat : Int) (deskO o) l (Pl' S) = some ((i : Int), true, deskO o, l, Pl' S) ∧ i ∈ S ∧ tk (Do o) x (rmw l S) = some (rmw l (S.erase i))) ∨
  (B53 (x.toNat : Int) (deskO o) l (Pl' S) = some (0, false, deskO o, l, Pl' S) ∧ tk (Do o) x (rmw l S) = none) := by
 have hs : S.Pairwise (· < ·) := by have := hv.2.2.2.2.1; rwa [kz_Pl] at this
 have hlt : ∀ k ∈ S, k < l.length := by have := hv.2.2.2.2.2; rwa [kz_Pl] at this
 obtain ⟨f1, f2⟩ := fnd_tk (D := Dk (deskO o)) (log := l) hs (x := x) fun hm => hw.refl h x (rmw_mem hlt hm)
 have hc : tk (Dk (deskO o)) x (rmw l S) = tk (Do o) x (rmw l S) := tk_congr (fun x hx y hy => Dk_Do h hw x (rmw_mem hlt hx) y (rmw_mem hlt hy)) x
 have e : B53 (x.toNat : Int) (deskO o) l (Pl' S) = some (match fnd (Dk (deskO o)) l S (x.toNat : Int) with
  | some i => ((i : Int), true, deskO o, l, Pl' S)
  | none => (0, false, deskO o, l, Pl' S)) := by
  unfold B53; rw [if_pos hv, kz_Pl]; rfl
 rw [e]
 cases hf : fnd (Dk (deskO o)) l S (x.toNat : Int) with
 | some i => exact .inl ⟨i, rfl, (f1 i hf).1, hc ▸ (f1 i hf).2⟩
 | none => exact .inr ⟨rfl, hc ▸ f2 hf⟩
theorem kb22 : FnOk Tryd.prog 22 (F22 B22) := ok22 C41 B42 (A43 B53) B53 kc41 kb42 (ok43 kb53) kb53 B22 fun o a b r h => ⟨20, by
 obtain rfl := Option.some.inj h
 unfold m22
 by_cases he : errA o [a, b] = 0
 ·obtain ⟨h1, h2⟩ := errA_word he (l := a) (by simp)
  obtain ⟨h3, h4⟩ := errA_word he (l := b) (by simp)
  have h0 := (errA_zero he).1
  rw [C41_good (by simp) he, if_pos he, Option.bind_some]
  show cond false _ _ = _
  rw [cond_false, B42_word _ h3, Option.bind_some]
  refine (rangeIx a 0 (fun n (s : List Int × Wd × Lf) t => l22a C41 B42 (A43 B53) B53 20 a n t s.1 s.2.1 s.2.2) (fun t r s => ∃ S, s = (deskO o, b, Pl' S) ∧ Vp (deskO o) b (Pl' S)) (fun t r s => some (match rst (Do o) r (rmw b (kz s.2.2)) with
   | some q => (nfo o q, 0)
   | none => ([], 14))) (fun n s t x rest q1 q2 hI ih => ?_) (fun n s hI => ?_) 20 (deskO o, b, Pl' (List.range b.length)) (by omega) ⟨_, rfl, Vp_word h0 h3 h4⟩).trans ?_
  ·show l22a C41 B42 (A43 B53) B53 20 a (n + 1) (t : Int) s.1 s.2.1 s.2.2 = _
   obtain ⟨S, rfl, hv⟩ := hI
   rw [l22a, ixA q1, cond_true, ixB q1, chk_true, Int.toNat_natCast, q2, ixW q1 (by omega)]
   simp only [kz_Pl, rst]
   rcases B53_of h0 h4 hv x with ⟨i, e1, e2, e3⟩ | ⟨e1, e3⟩
   ·rw [e1, Option.bind_some, e3]
    simp only [Bool.not_true, cond_false, Option.bind_some]
    have := ih (deskO o, b, Pl' (S.erase i)) ⟨_, rfl, hv.erase i⟩
    simp only [kz_Pl] at this
    rw [← this]
    have em : mdel (kt := .int .i64) (vt := .bool) (Pl' S) ((i : Nat) : Int) = Pl' (S.erase i) := mdel_Pl i _
    rw [em]
   ·rw [e1, Option.bind_some, e3]; rfl
  ·show l22a C41 B42 (A43 B53) B53 20 a (n + 1) (a.length : Int) s.1 s.2.1 s.2.2 = _
   obtain ⟨S, rfl, hv⟩ := hI
   rw [l22a, ixE, cond_false]
   simp only [kz_Pl, rst]
   rw [A43_word h0 h4 hv]; rfl
  ·simp only [kz_Pl, rmw_range]
 ·obtain ⟨d, hd⟩ := C41_bad (ls := [a, b]) (by simp) he
  rw [hd, if_neg he, Option.bind_some]
  have : (errA o [a, b] != 0) = true := by simpa using he
  simp only [this, cond_true]⟩
def bt (d : List Int) (x y : Nat) : Bool := (d.getD x 0).toNat.testBit y
theorem bt_bit {d : List Int} (hd : okD d) {x y : Nat} (hx : x < 6) (hy : y < 6) : ((bAnd .u64 (Int.fdiv (d.getD x 0) (2 ^ min (Int.toNat (y : Int)) 64)) 1) == 0) = !bt d x y := by
 obtain ⟨h1, h2⟩ := hd.2 x hx
 obtain ⟨m, hm⟩ : ∃ m : Nat, d.getD x 0 = (m : Int) := ⟨(d.getD x 0).toNat, by omega⟩
 unfold bt
 rw [hm, Int.toNat_natCast, Int.toNat_natCast, Nat.min_eq_left (by omega), fdiv_pow]
 have h := bAnd_u64 (a := m / 2 ^ y) (b := 1) (Nat.lt_of_le_of_lt (Nat.div_le_self _ _) (by omega)) (by decide)
 rw [show ((1 : Nat) : Int) = 1 from rfl] at h
 rw [h, Nat.and_one_is_mod, Nat.testBit_eq_decide_div_mod_eq]
 have : m / 2 ^ y % 2 = 0 ∨ m / 2 ^ y % 2 = 1 := by omega
 rcases this with e | e <;> rw [e] <;> rfl
def dP (d : List Int) (a b : Wd) (x y : Nat) : Bool := bt d x y && !(a.filter (only2 x y) == b.filter (only2 x y))
def dif (P : Nat → Nat → Bool) (k x : Nat) : Option (Nat × Nat) := (List.range' x (k - x)).findSome? fun x => ((List.range' x (k - x)).find? (P x)).map fun y => (x, y)
def dOut : Option (Nat × Nat) → Int × Int × Bool
 | some p => ((p.1 : Int), (p.2 : Int), true)
 | none => (0, 0, false)
def B58 : List Int → Of → Wd → Wd → Option (Int × Int × Bool) := fun d o a b =>
 if okD d ∧ (0 ≤ o.1 ∧ o.1 ≤ 6) ∧ (asc a = true ∧ asc b = true) ∧ a.length ≤ 1000 ∧ b.length ≤ 1000 then some (dOut (dif (dP d a b) o.1.toNat 0)) else none
theorem range'_step {t k : Nat} (h : t < k) : List.range' t (k - t) = t :: List.range' (t + 1) (k - (t + 1)) := by
 rw [show k - t = (k - (t + 1)) + 1 by omega, List.range'_succ]
theorem kb58 : FnOk Tryd.prog 58 (F58 B58) := ok58 A72 ok72 B58 fun d o a b r h => ⟨10, by
 unfold B58 at h
 split at h
 ·rename_i hq
  obtain ⟨hd, hk, ⟨ha, hb⟩, hla, hlb⟩ := hq
  obtain rfl := Option.some.inj h
  obtain ⟨k, hkk⟩ : ∃ k : Nat, o.1 = (k : Int) := ⟨o.1.toNat, by omega⟩
  have hk6 : k ≤ 6 := by omega
  unfold m58
  rw [hkk, Int.toNat_natCast]
  refine countUp 0 (k : Int) (by omega) (fun n (_ : Unit) t => l58a A72 10 d o a b n t) (fun t _ => 0 ≤ t) (fun t _ => some (dOut (dif (dP d a b) k t.toNat))) (fun n _ t h0 h1 _ ih => ?_) (fun n _ _ => ?_) 10 () (by omega) (by omega)
  ·show l58a A72 10 d o a b (n + 1) t = _
   obtain ⟨x, rfl⟩ : ∃ x : Nat, t = (x : Int) := ⟨t.toNat, by omega⟩
   have ihx := ih () (by omega)
   rw [l58a, hkk, decide_eq_true h1, cond_true]
   have inner := countUp (x : Int) (k : Int) (by omega) (fun m (_ : Unit) s => l58b A72 10 d o a b (x : Int) (fun y0 => l58a A72 10 d o a b n y0) m s) (fun s _ => (x : Int) ≤ s) (fun s _ => some (dOut (match (List.range' s.toNat (k - s.toNat)).find? (dP d a b x) with
    | some y => some (x, y)
    | none => dif (dP d a b) k (x + 1)))) (fun m _ s s0 s1 _ jh => ?_) (fun m _ _ => ?_) 10 () (by omega) (by omega)
   ·rw [inner, Int.toNat_natCast]
    congr 2
    unfold dif
    rw [range'_step (t := x) (k := k) (by omega), List.findSome?_cons, ← range'_step (by omega)]
    cases (List.range' x (k - x)).find? (dP d a b x) <;> rfl
   ·show l58b A72 10 d o a b (x : Int) (fun y0 => l58a A72 10 d o a b n y0) (m + 1) s = _
    obtain ⟨y, rfl⟩ : ∃ y : Nat, s = (y : Int) := ⟨s.toNat, by omega⟩
    have jhy := jh () (by omega)
    rw [l58b, hkk, decide_eq_true s1, cond_true, chk_dec (by omega), chk_dec (by omega), Int.toNat_natCast x, bt_bit hd (by omega) (by omega), w64_succ (by omega)]
    rw [show ((y : Int) + 1) = ((y + 1 : Nat) : Int) by omega] at jhy
    rw [Int.toNat_natCast] at jhy ⊢
    rw [range'_step (t := y) (k := k) (by omega), List.find?_cons]
    cases hbt : bt d x y with
    | false =>
     have : dP d a b x y = false := by unfold dP; rw [hbt]; rfl
     rw [this]
     exact jhy
    | true =>
     have ea : A72 (x : Int) (y : Int) a = some (a.filter (only2 x y)) := by unfold A72; rw [if_pos ⟨by omega, ha, by omega⟩]
     have eb : A72 (x : Int) (y : Int) b = some (b.filter (only2 x y)) := by unfold A72; rw [if_pos ⟨by omega, hb, by omega⟩]
     rw [ea, Option.bind_some, eb, Option.bind_some]
     have : dP d a b x y = !(a.filter (only2 x y) == b.filter (only2 x y)) := by unfold dP; rw [hbt, Bool.true_and]
     rw [this]
     cases (a.filter (only2 x y) == b.filter (only2 x y)) with
     | true => exact jhy
     | false => rfl
   ·show l58b A72 10 d o a b (x : Int) (fun y0 => l58a A72 10 d o a b n y0) (m + 1) (k : Int) = _
    rw [l58b, hkk, decide_eq_false (by omega), cond_false, Int.toNat_natCast, Nat.sub_self, w64_succ (by omega)]
    rw [show ((x : Int) + 1) = ((x + 1 : Nat) : Int) by omega] at ihx
    rw [Int.toNat_natCast] at ihx
    exact ihx
  ·show l58a A72 10 d o a b (n + 1) (k : Int) = _
   rw [l58a, hkk, decide_eq_false (by omega), cond_false, Int.toNat_natCast]
   unfold dif
   rw [Nat.sub_self]; rfl
 ·cases h⟩
theorem dif_none {P : Nat → Nat → Bool} {k : Nat} : dif P k 0 = none ↔ ∀ x y, x ≤ y → y < k → P x y = false := by
 unfold dif
 rw [List.findSome?_eq_none_iff]
 simp only [Option.map_eq_none_iff, List.find?_eq_none, List.mem_range'_1]
 constructor
 ·intro h x y hxy hy
  have := h x (by omega) y (by omega)
  simpa using this
 ·intro h x hx y hy
  rw [h x y (by omega) (by omega)]
  simp
theorem bt_deskO {o : Of} (h : errO o = 0) {x y : Nat} (hx : (x : Int) < o.1) (hy : (y : Int) < o.1) : bt (deskO o) x y = Do o (UInt8.ofNat (97 + x)) (UInt8.ofNat (97 + y)) := by
 have hk := (errO_zero h).1
 have ex : (UInt8.ofNat (97 + x)).toNat = 97 + x := by rw [UInt8.toNat_ofNat', Nat.mod_eq_of_lt (by omega)]
 have ey : (UInt8.ofNat (97 + y)).toNat = 97 + y := by rw [UInt8.toNat_ofNat', Nat.mod_eq_of_lt (by omega)]
 rw [← Dk_deskO h (by omega) (by omega)]
 unfold bt Dk
 rw [ex, ey, show 97 + x - 97 = x by omega, show 97 + y - 97 = y by omega, Nat.testBit_eq_decide_div_mod_eq, Nat.shiftRight_eq_div_pow]
 rfl
theorem only2_prj {x y : Nat} (hx : x < 100) (hy : y < 100) (a : Wd) : a.filter (only2 x y) = prj (UInt8.ofNat (97 + x)) (UInt8.ofNat (97 + y)) a := by
 unfold prj
 congr 1
 funext b
 unfold only2
 have e : ∀ z : Nat, z < 100 → decide ((b.toNat : Int) = 97 + (z : Int)) = (b == UInt8.ofNat (97 + z)) := fun z hz => by
  have ez : (UInt8.ofNat (97 + z)).toNat = 97 + z := by rw [UInt8.toNat_ofNat', Nat.mod_eq_of_lt (by omega)]
  rw [Bool.eq_iff_iff, decide_eq_true_iff, beq_iff_eq, ← UInt8.toNat_inj, ez]
  omega
 rw [e x hx, e y hy]
theorem prj_out {x y : UInt8} {a : Wd} (h : y ∉ a) : prj x y a = prj x x a := by
 unfold prj
 refine List.filter_congr fun z hz => ?_
 have : z ≠ y := fun e => h (e ▸ hz)
 simp [this]
theorem prj_comm (x y : UInt8) (a : Wd) : prj x y a = prj y x a := by
 unfold prj; congr 1; funext z; rw [Bool.or_comm]
theorem dif_eqv {o : Of} (h : errO o = 0) {a b : Wd} (ha : Ls o a) (hb : Ls o b) : dif (dP (deskO o) a b) o.1.toNat 0 = none ↔ Eqv (Do o) a b := by
 have hk := (errO_zero h).1
 rw [dif_none]
 have hB := Do_bnd h
 have key : ∀ x y : Nat, (x : Int) < o.1 → (y : Int) < o.1 → (dP (deskO o) a b x y = false ↔ (Do o (UInt8.ofNat (97 + x)) (UInt8.ofNat (97 + y)) = true → prj (UInt8.ofNat (97 + x)) (UInt8.ofNat (97 + y)) a = prj (UInt8.ofNat (97 + x)) (UInt8.ofNat (97 + y)) b)) := fun x y hx hy => by
  unfold dP
  rw [bt_deskO h hx hy, only2_prj (by omega) (by omega), only2_prj (by omega) (by omega)]
  cases Do o (UInt8.ofNat (97 + x)) (UInt8.ofNat (97 + y)) with
  | false => simp
  | true => simp
 constructor
 ·intro hall
  have hin : ∀ u v : UInt8, (97 ≤ (u.toNat : Int) ∧ (u.toNat : Int) ≤ 97 + o.1 - 1) → (97 ≤ (v.toNat : Int) ∧ (v.toNat : Int) ≤ 97 + o.1 - 1) → Do o u v = true → prj u v a = prj u v b := by
   have main : ∀ u v : UInt8, (97 ≤ (u.toNat : Int) ∧ (u.toNat : Int) ≤ 97 + o.1 - 1) → (97 ≤ (v.toNat : Int) ∧ (v.toNat : Int) ≤ 97 + o.1 - 1) → u.toNat ≤ v.toNat → Do o u v = true → prj u v a = prj u v b := by
    intro u v hu hv huv hD
    have eu : UInt8.ofNat (97 + (u.toNat - 97)) = u := by rw [show 97 + (u.toNat - 97) = u.toNat by omega]; exact UInt8.ofNat_toNat
    have ev : UInt8.ofNat (97 + (v.toNat - 97)) = v := by rw [show 97 + (v.toNat - 97) = v.toNat by omega]; exact UInt8.ofNat_toNat
    have := (key (u.toNat - 97) (v.toNat - 97) (by omega) (by omega)).1 (hall _ _ (by omega) (by omega))
    rw [eu, ev] at this
    exact this hD
   intro u v hu hv hD
   by_cases huv : u.toNat ≤ v.toNat
   ·exact main u v hu hv huv hD
   ·rw [prj_comm, main v u hv hu (by omega) (by rw [hB.symm]; exact hD), prj_comm]
  have hout : ∀ u : UInt8, ¬ (97 ≤ (u.toNat : Int) ∧ (u.toNat : Int) ≤ 97 + o.1 - 1) → u ∉ a ∧ u ∉ b := fun u hu => ⟨fun hm => hu (ha u hm), fun hm => hu (hb u hm)⟩
  have hone : ∀ u : UInt8, prj u u a = prj u u b := fun u => by
   by_cases hu : 97 ≤ (u.toNat : Int) ∧ (u.toNat : Int) ≤ 97 + o.1 - 1
   ·exact hin u u hu hu (hB.refl u)
   ·obtain ⟨h1, h2⟩ := hout u hu
    rw [prj_nil_of (x := u) (y := u) (a := a) fun z hz => ⟨fun e => h1 (e ▸ hz), fun e => h1 (e ▸ hz)⟩, prj_nil_of (x := u) (y := u) (a := b) fun z hz => ⟨fun e => h2 (e ▸ hz), fun e => h2 (e ▸ hz)⟩]
  intro u v hD
  by_cases hu : 97 ≤ (u.toNat : Int) ∧ (u.toNat : Int) ≤ 97 + o.1 - 1
  ·by_cases hv : 97 ≤ (v.toNat : Int) ∧ (v.toNat : Int) ≤ 97 + o.1 - 1
   ·exact hin u v hu hv hD
   ·obtain ⟨h1, h2⟩ := hout v hv
    rw [prj_out h1, prj_out h2]; exact hone u
  ·obtain ⟨h1, h2⟩ := hout u hu
   rw [prj_comm, prj_comm u v b, prj_out h1, prj_out h2]; exact hone v
 ·intro hE x y hxy hy
  exact (key x y (by omega) (by omega)).2 fun hD => hE _ _ hD
def B34 : Of → Wd → Wd → Option (Bool × Int) := fun o a b => some (if errA o [a, b] = 0 then (decide (rst (Do o) a b = some []), 0) else (false, errA o [a, b]))
theorem Ls.asc {o : Of} (h : errO o = 0) {l : Wd} (hl : Ls o l) : Go.Proofs.YtmpbbkldopfkpaaDoor.asc l = true := by
 have := (errO_zero h).1
 unfold Go.Proofs.YtmpbbkldopfkpaaDoor.asc
 rw [List.all_eq_true]
 intro b hb
 have := hl b hb
 exact decide_eq_true (by omega)
theorem B58_is {o : Of} {a b : Wd} (he : errA o [a, b] = 0) : ∃ p, B58 (deskO o) o a b = some p ∧ p.2.2 = !decide (rst (Do o) a b = some []) ∧ p = dOut (dif (dP (deskO o) a b) o.1.toNat 0) := by
 obtain ⟨h1, h2⟩ := errA_word he (l := a) (by simp)
 obtain ⟨h3, h4⟩ := errA_word he (l := b) (by simp)
 have h0 := (errA_zero he).1
 have hk := (errO_zero h0).1
 refine ⟨dOut (dif (dP (deskO o) a b) o.1.toNat 0), by unfold B58; rw [if_pos ⟨deskO_ok o, by omega, ⟨h2.asc h0, h4.asc h0⟩, by omega, by omega⟩], ?_, rfl⟩
 have e := (dif_eqv h0 h2 h4).trans (eqv_rst (Do_bnd h0))
 by_cases hr : rst (Do o) a b = some []
 ·rw [e.2 hr, decide_eq_true hr]; rfl
 ·rw [decide_eq_false hr]
  cases hd : dif (dP (deskO o) a b) o.1.toNat 0 with
  | none => exact absurd (e.1 hd) hr
  | some p => rfl
theorem kb34 : FnOk Tryd.prog 34 (F34 B34) := ok34 C41 B58 kc41 kb58 B34 fun o a b r h => ⟨0, by
 obtain rfl := Option.some.inj h
 unfold m34
 by_cases he : errA o [a, b] = 0
 ·rw [C41_good (by simp) he, if_pos he, Option.bind_some]
  show cond false _ _ = _
  obtain ⟨p, e1, e2, _⟩ := B58_is he
  rw [cond_false, e1, Option.bind_some, e2, Bool.not_not]
 ·obtain ⟨d, hd⟩ := C41_bad (ls := [a, b]) (by simp) he
  rw [hd, if_neg he, Option.bind_some]
  have : (errA o [a, b] != 0) = true := by simpa using he
  simp only [this, cond_true]⟩
end Go.Proofs.YtmpbbkldopfkpaaDoor
