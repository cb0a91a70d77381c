/-
 First, Rest and Same, in plain words.
-/
import Derived.Test.YtfopcfnggdonkaaGreatDoorL3
namespace Go.Proofs.YtfopcfnggdonkaaGreatDoor
open Go.Proofs.Tryz
open Go.RowKit
set_option linter.unusedVariables false
section
variable {D E : UInt8 -> UInt8 -> Bool}
theorem aj8 {x : UInt8} {l : Wd} (h : x ∉ l) : tk D x l = none := by
 cases ht : tk D x l with
 | none => rfl
 | some l' => exact absurd (Vh ht).1 h
theorem aj6 {x : UInt8} : ∀ {l : Wd}, (∀ y ∈ l, D y x = E y x) -> tk D x l = tk E x l
 | [], _ => rfl
 | y :: r, h => by
  simp only [tk]
  rw [h y (by simp), aj6 fun z hz => h z (by simp [hz])]
theorem aE9 {l : Wd} (h : ∀ x ∈ l, ∀ y ∈ l, D x y = E x y) (x : UInt8) : tk D x l = tk E x l := by
 by_cases hx : x ∈ l
 ·exact aj6 fun y hy => h y hy x hx
 ·rw [aj8 hx, aj8 hx]
theorem aBR {l : Wd} (h : ∀ x ∈ l, ∀ y ∈ l, D x y = E x y) (ks : Wd) : pick D ks l = pick E ks l := by
 unfold pick
 congr 1
 funext x
 rw [aE9 h]
theorem afM (ks : Wd) : ∀ (n : Nat) {l : Wd}, (∀ x ∈ l, ∀ y ∈ l, D x y = E x y) -> nf D ks n l = nf E ks n l
 | 0, l, h => rfl
 | n + 1, l, h => by
  simp only [nf, aBR h]
  cases hp : pick E ks l with
  | none => rfl
  | some p =>
   have hm := (Vh (ahI hp).2).2
   simp only [afM ks n fun x hx y hy => h x (hm x hx) y (hm y hy)]
end
def Ls (o : Of) (l : Wd) : Prop := ∀ b ∈ l, 97 <= (b.toNat : Int) /\ (b.toNat : Int) <= 97 + o.1 - 1
theorem ak9 {o : Of} (h : iG o = 0) {l : Wd} (hl : Ls o l) : ∀ x ∈ l, ∀ y ∈ l, Dk (jV o) x y = Do o x y := fun x hx y hy =>
 Hw h (by have := hl x hx; omega) (by have := hl y hy; omega)
theorem Ls.pJ {o : Of} (h : iG o = 0) {l : Wd} (hl : Ls o l) : ∀ b ∈ l, pJ b := fun b hb => by
 have := hl b hb
 have := (A8 h).1
 unfold Go.Proofs.YtfopcfnggdonkaaGreatDoor.pJ; omega
theorem Ls.abc {o : Of} (h : iG o = 0) {l : Wd} (hl : Ls o l) : ∀ b ∈ l, b ∈ abc := fun b hb => aeD (hl.pJ h b hb)
theorem Ls.refl {o : Of} (h : iG o = 0) {l : Wd} (hl : Ls o l) : ∀ b ∈ l, Dk (jV o) b b = true := fun b hb => ak' h (hl b hb)
def oK (o : Of) (ls : List Wd) : Int := if iG o = 0 then sW o.1 ls else iG o
theorem ZQ {o : Of} {ls : List Wd} (h : oK o ls = 0) : iG o = 0 /\ sW o.1 ls = 0 := by
 unfold oK at h
 split at h
 ·rename_i h0; exact ⟨h0, h⟩
 ·rename_i h0; exact absurd h h0
theorem acR {k : Int} : ∀ {ls : List Wd}, sW k ls = 0 -> ∀ l ∈ ls, DN k l = 0
 | [], _, l, hl => by cases hl
 | a :: ls, h, l, hl => by
  unfold sW at h
  split at h
  ·rename_i h0
   rcases List.mem_cons.1 hl with rfl | hl
   ·exact h0
   ·exact acR h l hl
  ·rename_i h0; exact absurd h h0
theorem Lt {o : Of} {ls : List Wd} (h : oK o ls = 0) {l : Wd} (hl : l ∈ ls) : l.length <= 14 /\ Ls o l := asZ (acR (ZQ h).2 l hl)
def ES : Of -> List Wd -> Option (List Int × Int) := fun o ls => if ls.length < 1000 then SH o ls else none
theorem aeH : aC prog 21 (vM ES) := axE
theorem We {o : Of} {ls : List Wd} (hl : ls.length < 1000) (h : oK o ls ≠ 0) : ∃ d, ES o ls = some (d, oK o ls) := by
 unfold ES SH oK
 rw [if_pos hl]
 by_cases h0 : iG o = 0
 ·rw [if_pos h0, if_pos h0]; exact ⟨_, rfl⟩
 ·rw [if_neg h0, if_neg h0]; exact ⟨_, rfl⟩
theorem Wh {o : Of} {ls : List Wd} (hl : ls.length < 1000) (h : oK o ls = 0) : ES o ls = some (jV o, 0) := by
 obtain ⟨h0, h1⟩ := ZQ h
 unfold ES SH
 rw [if_pos hl, if_pos h0, h1]
theorem ao0 {o : Of} (h : iG o = 0) {l : Wd} (hl : l.length <= 14) (hw : Ls o l) : Vp (jV o) l (Pl' (List.range l.length)) :=
 aoZ (acH o) (hw.pJ h) (by omega)
theorem ak4 (d : List Int) {l : Wd} (hl : l.length <= 14) : JC d l = some (Pl' (List.range l.length), d, l) := by
 unfold JC; rw [if_pos (by omega)]
def BR (o : Of) (l : Wd) : Wd := nf (Do o) abc l.length l
theorem ak0 {o : Of} (h : iG o = 0) {l : Wd} (hw : Ls o l) {S : List Nat} (hv : Vp (jV o) l (Pl' S)) : I8 yJ (jV o) l (Pl' S) = some (BR o (mQ l S), jV o, l, []) := by
 rw [akZ (hw.refl h) hv]
 unfold BR
 rw [aB', afM abc _ fun x hx y hy => ?_]
 have hlt : ∀ k ∈ S, k < l.length := by have := hv.2.2.2.2.2; rwa [uU] at this
 exact ak9 h hw x (Uu hlt hx) y (Uu hlt hy)
def B8 : Of -> Wd -> Option (Wd × Int) := fun o l => some (if oK o [l] = 0 then (BR o l, 0) else ([], oK o [l]))
theorem kb8 : aC prog 8 (F8 B8) := ok8 ES JC (I8 yJ) aeH axF (aAG axJ) B8 fun o l r h => ⟨0, by
 obtain rfl := Option.some.inj h
 unfold m8
 by_cases he : oK o [l] = 0
 ·obtain ⟨h1, h2⟩ := Lt he (l := l) (by simp)
  have h0 := (ZQ he).1
  rw [Wh (by simp) he, if_pos he, Option.bind_some]
  show cond false _ _ = _
  rw [cond_false, ak4 _ h1, Option.bind_some]
  simp only
  rw [ak0 h0 h2 (ao0 h0 h1 h2), aCA]; rfl
 ·obtain ⟨d, hd⟩ := We (ls := [l]) (by simp) he
  rw [hd, if_neg he, Option.bind_some]
  have : (oK o [l] != 0) = true := by simpa using he
  simp only [this, cond_true]⟩
def bt (d : List Int) (x y : Nat) : Bool := (d.getD x 0).toNat.testBit y
theorem ap8 {d : List Int} (hd : okD d) {x y : Nat} (hx : x < 6) (hy : y < 6) : ((yS .u64 (Int.fdiv (d.getD x 0) (2 ^ min (Int.toNat (y : Int)) 64)) 1) == 0) = !bt d x y := by
 obtain ⟨h1, h2⟩ := hd.2 x hx
 obtain ⟨m, hm⟩ : ∃ m : Nat, d.getD x 0 = (m : Int) := ⟨(d.getD x 0).toNat, by omega⟩
 unfold bt
 rw [hm, Int.toNat_natCast, Int.toNat_natCast, Nat.min_eq_left (by omega), fdiv_pow]
 have h := aaQ (a := m / 2 ^ y) (b := 1) (Nat.lt_of_le_of_lt (Nat.div_le_self _ _) (by omega)) (by decide)
 rw [show ((1 : Nat) : Int) = 1 from rfl] at h
 rw [h, Nat.and_one_is_mod, Nat.testBit_eq_decide_div_mod_eq]
 have : m / 2 ^ y % 2 = 0 \/ m / 2 ^ y % 2 = 1 := by omega
 rcases this with e | e <;> rw [e] <;> rfl
def dP (d : List Int) (a b : Wd) (x y : Nat) : Bool := bt d x y && !(a.filter (only2 x y) == b.filter (only2 x y))
def xN (P : Nat -> Nat -> Bool) (k x : Nat) : Option (Nat × Nat) := (List.range' x (k - x)).findSome? fun x => ((List.range' x (k - x)).find? (P x)).map fun y => (x, y)
def O6 : Option (Nat × Nat) -> Int × Int × Bool
 | some p => ((p.1 : Int), (p.2 : Int), true)
 | none => (0, 0, false)
def JD : List Int -> Of -> Wd -> Wd -> Option (Int × Int × Bool) := fun d o a b =>
 if okD d /\ (0 <= o.1 /\ o.1 <= 6) /\ (oG a = true /\ oG b = true) /\ a.length <= 1000 /\ b.length <= 1000 then some (O6 (xN (dP d a b) o.1.toNat 0)) else none
theorem Ur {t k : Nat} (h : t < k) : List.range' t (k - t) = t :: List.range' (t + 1) (k - (t + 1)) := by
 rw [show k - t = (k - (t + 1)) + 1 by omega, List.range'_succ]
theorem axG : aC prog 24 (NR JD) := aAH qA aAU JD fun d o a b r h => ⟨10, by
 unfold JD at h
 split at h
 ·rename_i hq
  obtain ⟨hd, hk, ⟨ha, hb⟩, hla, hlb⟩ := hq
  obtain rfl := Option.some.inj h
  obtain ⟨k, hkk⟩ : ∃ k : Nat, o.1 = (k : Int) := ⟨o.1.toNat, by omega⟩
  have hk6 : k <= 6 := by omega
  unfold m24
  rw [hkk, Int.toNat_natCast]
  refine YP 0 (k : Int) (by omega) (fun n (_ : Unit) t => l24a qA 10 d o a b n t) (fun t _ => 0 <= t) (fun t _ => some (O6 (xN (dP d a b) k t.toNat))) (fun n _ t h0 h1 _ ih => ?_) (fun n _ _ => ?_) 10 () (by omega) (by omega)
  ·show l24a qA 10 d o a b (n + 1) t = _
   obtain ⟨x, rfl⟩ : ∃ x : Nat, t = (x : Int) := ⟨t.toNat, by omega⟩
   have Po := ih () (by omega)
   rw [l24a, hkk, decide_eq_true h1, cond_true]
   have inner := YP (x : Int) (k : Int) (by omega) (fun m (_ : Unit) s => l24b qA 10 d o a b (x : Int) (fun y0 => l24a qA 10 d o a b n y0) m s) (fun s _ => (x : Int) <= s) (fun s _ => some (O6 (match (List.range' s.toNat (k - s.toNat)).find? (dP d a b x) with
    | some y => some (x, y)
    | none => xN (dP d a b) k (x + 1)))) (fun m _ s s0 s1 _ jh => ?_) (fun m _ _ => ?_) 10 () (by omega) (by omega)
   ·rw [inner, Int.toNat_natCast]
    congr 2
    unfold xN
    rw [Ur (t := x) (k := k) (by omega), List.findSome?_cons, <- Ur (by omega)]
    cases (List.range' x (k - x)).find? (dP d a b x) <;> rfl
   ·show l24b qA 10 d o a b (x : Int) (fun y0 => l24a qA 10 d o a b n y0) (m + 1) s = _
    obtain ⟨y, rfl⟩ : ∃ y : Nat, s = (y : Int) := ⟨s.toNat, by omega⟩
    have Ae := jh () (by omega)
    rw [l24b, XN, hkk, decide_eq_true s1, cond_true, iU (by omega), iU (by omega), Int.toNat_natCast x, ap8 hd (by omega) (by omega), He (by omega)]
    rw [show ((y : Int) + 1) = ((y + 1 : Nat) : Int) by omega] at Ae
    rw [Int.toNat_natCast] at Ae ⊢
    rw [Ur (t := y) (k := k) (by omega), List.find?_cons]
    cases hbt : bt d x y with
    | false =>
     have : dP d a b x y = false := by unfold dP; rw [hbt]; rfl
     rw [this]
     exact Ae
    | true =>
     have ea : qA (x : Int) (y : Int) a = some (a.filter (only2 x y)) := by unfold qA; rw [if_pos ⟨by omega, ha, by omega⟩]
     have eb : qA (x : Int) (y : Int) b = some (b.filter (only2 x y)) := by unfold qA; rw [if_pos ⟨by omega, hb, by omega⟩]
     rw [ea, Option.bind_some, eb, Option.bind_some]
     have : dP d a b x y = !(a.filter (only2 x y) == b.filter (only2 x y)) := by unfold dP; rw [hbt, Bool.true_and]
     rw [this]
     cases (a.filter (only2 x y) == b.filter (only2 x y)) with
     | true => exact Ae
     | false => rfl
   ·show l24b qA 10 d o a b (x : Int) (fun y0 => l24a qA 10 d o a b n y0) (m + 1) (k : Int) = _
    rw [l24b, XN, hkk, decide_eq_false (by omega), cond_false, Int.toNat_natCast, Nat.sub_self, He (by omega)]
    rw [show ((x : Int) + 1) = ((x + 1 : Nat) : Int) by omega] at Po
    rw [Int.toNat_natCast] at Po
    exact Po
  ·show l24a qA 10 d o a b (n + 1) (k : Int) = _
   rw [l24a, hkk, decide_eq_false (by omega), cond_false, Int.toNat_natCast]
   unfold xN
   rw [Nat.sub_self]; rfl
 ·cases h⟩
theorem arG {P : Nat -> Nat -> Bool} {k : Nat} : xN P k 0 = none ↔ ∀ x y, x <= y -> y < k -> P x y = false := by
 unfold xN
 rw [List.findSome?_eq_none_iff]
 simp only [Option.map_eq_none_iff, List.find?_eq_none, List.mem_range'_1]
 constructor
 ·intro h x y hxy hy
  have := h x (by omega) y (by omega)
  simpa using this
 ·intro h x hx y hy
  rw [h x y (by omega) (by omega)]
  simp
theorem ap9 {o : Of} (h : iG o = 0) {x y : Nat} (hx : (x : Int) < o.1) (hy : (y : Int) < o.1) : bt (jV o) x y = Do o (UInt8.ofNat (97 + x)) (UInt8.ofNat (97 + y)) := by
 have hk := (A8 h).1
 have ex : (UInt8.ofNat (97 + x)).toNat = 97 + x := by rw [UInt8.toNat_ofNat', Nat.mod_eq_of_lt (by omega)]
 have ey : (UInt8.ofNat (97 + y)).toNat = 97 + y := by rw [UInt8.toNat_ofNat', Nat.mod_eq_of_lt (by omega)]
 rw [<- Hw h (by omega) (by omega)]
 unfold bt Dk
 rw [ex, ey, show 97 + x - 97 = x by omega, show 97 + y - 97 = y by omega, Nat.testBit_eq_decide_div_mod_eq, Nat.shiftRight_eq_div_pow]
 rfl
theorem ag8 {x y : Nat} (hx : x < 100) (hy : y < 100) (a : Wd) : a.filter (only2 x y) = iJ (UInt8.ofNat (97 + x)) (UInt8.ofNat (97 + y)) a := by
 unfold iJ
 congr 1
 funext b
 unfold only2
 have e : ∀ z : Nat, z < 100 -> decide ((b.toNat : Int) = 97 + (z : Int)) = (b == UInt8.ofNat (97 + z)) := fun z hz => by
  have ez : (UInt8.ofNat (97 + z)).toNat = 97 + z := by rw [UInt8.toNat_ofNat', Nat.mod_eq_of_lt (by omega)]
  rw [Bool.eq_iff_iff, decide_eq_true_iff, beq_iff_eq, <- UInt8.toNat_inj, ez]
  omega
 rw [e x hx, e y hy]
theorem Fp {x y : UInt8} {a : Wd} (h : y ∉ a) : iJ x y a = iJ x x a := by
 unfold iJ
 refine List.filter_congr fun z hz => ?_
 have : z ≠ y := fun e => h (e ▸ hz)
 simp [this]
theorem Fh (x y : UInt8) (a : Wd) : iJ x y a = iJ y x a := by
 unfold iJ; congr 1; funext z; rw [Bool.or_comm]
theorem arF {o : Of} (h : iG o = 0) {a b : Wd} (ha : Ls o a) (hb : Ls o b) : xN (dP (jV o) a b) o.1.toNat 0 = none ↔ dM (Do o) a b := by
 have hk := (A8 h).1
 rw [arG]
 have hB := vJ h
 have key : ∀ x y : Nat, (x : Int) < o.1 -> (y : Int) < o.1 -> (dP (jV o) a b x y = false ↔ (Do o (UInt8.ofNat (97 + x)) (UInt8.ofNat (97 + y)) = true -> iJ (UInt8.ofNat (97 + x)) (UInt8.ofNat (97 + y)) a = iJ (UInt8.ofNat (97 + x)) (UInt8.ofNat (97 + y)) b)) := fun x y hx hy => by
  unfold dP
  rw [ap9 h hx hy, ag8 (by omega) (by omega), ag8 (by omega) (by omega)]
  cases Do o (UInt8.ofNat (97 + x)) (UInt8.ofNat (97 + y)) with
  | false => simp
  | true => simp
 constructor
 ·intro hall
  have hin : ∀ u v : UInt8, (97 <= (u.toNat : Int) /\ (u.toNat : Int) <= 97 + o.1 - 1) -> (97 <= (v.toNat : Int) /\ (v.toNat : Int) <= 97 + o.1 - 1) -> Do o u v = true -> iJ u v a = iJ u v b := by
   have main : ∀ u v : UInt8, (97 <= (u.toNat : Int) /\ (u.toNat : Int) <= 97 + o.1 - 1) -> (97 <= (v.toNat : Int) /\ (v.toNat : Int) <= 97 + o.1 - 1) -> u.toNat <= v.toNat -> Do o u v = true -> iJ u v a = iJ u v b := by
    intro u v hu hv huv hD
    have eu : UInt8.ofNat (97 + (u.toNat - 97)) = u := by rw [show 97 + (u.toNat - 97) = u.toNat by omega]; exact UInt8.ofNat_toNat
    have ev : UInt8.ofNat (97 + (v.toNat - 97)) = v := by rw [show 97 + (v.toNat - 97) = v.toNat by omega]; exact UInt8.ofNat_toNat
    have := (key (u.toNat - 97) (v.toNat - 97) (by omega) (by omega)).1 (hall _ _ (by omega) (by omega))
    rw [eu, ev] at this
    exact this hD
   intro u v hu hv hD
   by_cases huv : u.toNat <= v.toNat
   ·exact main u v hu hv huv hD
   ·rw [Fh, main v u hv hu (by omega) (by rw [hB.symm]; exact hD), Fh]
  have hout : ∀ u : UInt8, ¬ (97 <= (u.toNat : Int) /\ (u.toNat : Int) <= 97 + o.1 - 1) -> u ∉ a /\ u ∉ b := fun u hu => ⟨fun hm => hu (ha u hm), fun hm => hu (hb u hm)⟩
  have hone : ∀ u : UInt8, iJ u u a = iJ u u b := fun u => by
   by_cases hu : 97 <= (u.toNat : Int) /\ (u.toNat : Int) <= 97 + o.1 - 1
   ·exact hin u u hu hu (hB.refl u)
   ·obtain ⟨h1, h2⟩ := hout u hu
    rw [Un (x := u) (y := u) (a := a) fun z hz => ⟨fun e => h1 (e ▸ hz), fun e => h1 (e ▸ hz)⟩, Un (x := u) (y := u) (a := b) fun z hz => ⟨fun e => h2 (e ▸ hz), fun e => h2 (e ▸ hz)⟩]
  intro u v hD
  by_cases hu : 97 <= (u.toNat : Int) /\ (u.toNat : Int) <= 97 + o.1 - 1
  ·by_cases hv : 97 <= (v.toNat : Int) /\ (v.toNat : Int) <= 97 + o.1 - 1
   ·exact hin u v hu hv hD
   ·obtain ⟨h1, h2⟩ := hout v hv
    rw [Fp h1, Fp h2]; exact hone u
  ·obtain ⟨h1, h2⟩ := hout u hu
   rw [Fh, Fh u v b, Fp h1, Fp h2]; exact hone v
 ·intro hE x y hxy hy
  exact (key x y (by omega) (by omega)).2 fun hD => hE _ _ hD
def B9 : Of -> Wd -> Wd -> Option (Bool × Int) := fun o a b => some (if oK o [a, b] = 0 then (decide (CG (Do o) a b = some []), 0) else (false, oK o [a, b]))
theorem Ls.oG {o : Of} (h : iG o = 0) {l : Wd} (hl : Ls o l) : Go.Proofs.YtfopcfnggdonkaaGreatDoor.oG l = true := by
 have := (A8 h).1
 unfold Go.Proofs.YtfopcfnggdonkaaGreatDoor.oG
 rw [List.all_eq_true]
 intro b hb
 have := hl b hb
 exact decide_eq_true (by omega)
theorem ak6 {o : Of} {a b : Wd} (he : oK o [a, b] = 0) : ∃ p, JD (jV o) o a b = some p /\ p.2.2 = !decide (CG (Do o) a b = some []) /\ p = O6 (xN (dP (jV o) a b) o.1.toNat 0) := by
 obtain ⟨h1, h2⟩ := Lt he (l := a) (by simp)
 obtain ⟨h3, h4⟩ := Lt he (l := b) (by simp)
 have h0 := (ZQ he).1
 have hk := (A8 h0).1
 refine ⟨O6 (xN (dP (jV o) a b) o.1.toNat 0), by unfold JD; rw [if_pos ⟨acH o, by omega, ⟨h2.oG h0, h4.oG h0⟩, by omega, by omega⟩], ?_, rfl⟩
 have e := (arF h0 h2 h4).trans (Lr (vJ h0))
 by_cases hr : CG (Do o) a b = some []
 ·rw [e.2 hr, decide_eq_true hr]; rfl
 ·rw [decide_eq_false hr]
  cases hd : xN (dP (jV o) a b) o.1.toNat 0 with
  | none => exact absurd (e.1 hd) hr
  | some p => rfl
theorem kb9 : aC prog 9 (F9 B9) := ok9 ES JD aeH axG B9 fun o a b r h => ⟨0, by
 obtain rfl := Option.some.inj h
 unfold m9
 by_cases he : oK o [a, b] = 0
 ·rw [Wh (by simp) he, if_pos he, Option.bind_some]
  show cond false _ _ = _
  obtain ⟨p, e1, e2, _⟩ := ak6 he
  rw [cond_false, e1, Option.bind_some, e2, Bool.not_not]
 ·obtain ⟨d, hd⟩ := We (ls := [a, b]) (by simp) he
  rw [hd, if_neg he, Option.bind_some]
  have : (oK o [a, b] != 0) = true := by simpa using he
  simp only [this, cond_true]⟩
end Go.Proofs.YtfopcfnggdonkaaGreatDoor
