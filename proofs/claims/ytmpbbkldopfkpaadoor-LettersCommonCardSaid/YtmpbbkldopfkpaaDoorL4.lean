/-
 First, Rest and Same, in plain words.
-/
import Derived.Test.YtmpbbkldopfkpaaDoorL3
namespace Go.Proofs.YtmpbbkldopfkpaaDoor
open Go.RowKit
set_option linter.unusedVariables false

section
variable {D E : UInt8 → UInt8 → Bool}

theorem tk_notin {x : UInt8} {l : Wd} (h : x ∉ l) : tk D x l = none := by
 cases ht : tk D x l with
 | none => rfl
 | some l' => exact absurd (tk_mem ht).1 h
theorem tk_congr' {x : UInt8} : ∀ {l : Wd}, (∀ y ∈ l, D y x = E y x) → tk D x l = tk E x l
 | [], _ => rfl
 | y :: r, h => by
  simp only [tk]
  rw [h y (by simp), tk_congr' fun z hz => h z (by simp [hz])]
theorem tk_congr {l : Wd} (h : ∀ x ∈ l, ∀ y ∈ l, D x y = E x y) (x : UInt8) : tk D x l = tk E x l := by
 by_cases hx : x ∈ l
 ·exact tk_congr' fun y hy => h y hy x hx
 ·rw [tk_notin hx, tk_notin hx]
theorem pick_congr {l : Wd} (h : ∀ x ∈ l, ∀ y ∈ l, D x y = E x y) (ks : Wd) : pick D ks l = pick E ks l := by
 unfold pick
 congr 1
 funext x
 rw [tk_congr h]
theorem nf_congr (ks : Wd) : ∀ (n : Nat) {l : Wd}, (∀ x ∈ l, ∀ y ∈ l, D x y = E x y) → nf D ks n l = nf E ks n l
 | 0, l, h => rfl
 | n + 1, l, h => by
  simp only [nf, pick_congr h]
  cases hp : pick E ks l with
  | none => rfl
  | some p =>
   have hm := (tk_mem (pick_some hp).2).2
   simp only [nf_congr ks n fun x hx y hy => h x (hm x hx) y (hm y hy)]
theorem rst_mem : ∀ {a l r : Wd}, rst D a l = some r → ∀ z ∈ r, z ∈ l
 | [], l, r, h, z, hz => by obtain rfl := Option.some.inj h; exact hz
 | x :: a, l, r, h, z, hz => by
  obtain ⟨l', h1, h2⟩ := Option.bind_eq_some_iff.1 h
  exact (tk_mem h1).2 z (rst_mem h2 z hz)
end

def Ls (o : Of) (l : Wd) : Prop := ∀ b ∈ l, 97 ≤ (b.toNat : Int) ∧ (b.toNat : Int) ≤ 97 + o.1 - 1
theorem Dk_Do {o : Of} (h : errO o = 0) {l : Wd} (hl : Ls o l) : ∀ x ∈ l, ∀ y ∈ l, Dk (deskO o) x y = Do o x y := fun x hx y hy =>
 Dk_deskO h (by have := hl x hx; omega) (by have := hl y hy; omega)
theorem Ls.isL {o : Of} (h : errO o = 0) {l : Wd} (hl : Ls o l) : ∀ b ∈ l, isL b := fun b hb => by
 have := hl b hb
 have := (errO_zero h).1
 unfold Go.Proofs.YtmpbbkldopfkpaaDoor.isL; omega
theorem Ls.abc {o : Of} (h : errO o = 0) {l : Wd} (hl : Ls o l) : ∀ b ∈ l, b ∈ abc := fun b hb => isL_abc (hl.isL h b hb)
theorem Ls.refl {o : Of} (h : errO o = 0) {l : Wd} (hl : Ls o l) : ∀ b ∈ l, Dk (deskO o) b b = true := fun b hb => Dk_refl h (hl b hb)
def errA (o : Of) (ls : List Wd) : Int := if errO o = 0 then errL o.1 ls else errO o
theorem errA_zero {o : Of} {ls : List Wd} (h : errA o ls = 0) : errO o = 0 ∧ errL o.1 ls = 0 := by
 unfold errA at h
 split at h
 ·rename_i h0; exact ⟨h0, h⟩
 ·rename_i h0; exact absurd h h0
theorem errL_zero {k : Int} : ∀ {ls : List Wd}, errL k ls = 0 → ∀ l ∈ ls, errL1 k l = 0
 | [], _, l, hl => by cases hl
 | a :: ls, h, l, hl => by
  unfold errL at h
  split at h
  ·rename_i h0
   rcases List.mem_cons.1 hl with rfl | hl
   ·exact h0
   ·exact errL_zero h l hl
  ·rename_i h0; exact absurd h h0
theorem errA_word {o : Of} {ls : List Wd} (h : errA o ls = 0) {l : Wd} (hl : l ∈ ls) : l.length ≤ 14 ∧ Ls o l := errL1_zero (errL_zero (errA_zero h).2 l hl)
def C41 : Of → List Wd → Option (List Int × Int) := fun o ls => if ls.length < 1000 then B41 o ls else none
theorem kc41 : FnOk Tryd.prog 41 (F41 C41) := kb41
theorem C41_bad {o : Of} {ls : List Wd} (hl : ls.length < 1000) (h : errA o ls ≠ 0) : ∃ d, C41 o ls = some (d, errA o ls) := by
 unfold C41 B41 errA
 rw [if_pos hl]
 by_cases h0 : errO o = 0
 ·rw [if_pos h0, if_pos h0]; exact ⟨_, rfl⟩
 ·rw [if_neg h0, if_neg h0]; exact ⟨_, rfl⟩
theorem C41_good {o : Of} {ls : List Wd} (hl : ls.length < 1000) (h : errA o ls = 0) : C41 o ls = some (deskO o, 0) := by
 obtain ⟨h0, h1⟩ := errA_zero h
 unfold C41 B41
 rw [if_pos hl, if_pos h0, h1]
theorem Vp_word {o : Of} (h : errO o = 0) {l : Wd} (hl : l.length ≤ 14) (hw : Ls o l) : Vp (deskO o) l (Pl' (List.range l.length)) :=
 Vp_range (deskO_ok o) (hw.isL h) (by omega)
theorem B42_word (d : List Int) {l : Wd} (hl : l.length ≤ 14) : B42 d l = some (Pl' (List.range l.length), d, l) := by
 unfold B42; rw [if_pos (by omega)]
def nfo (o : Of) (l : Wd) : Wd := nf (Do o) abc l.length l
theorem A43_word {o : Of} (h : errO o = 0) {l : Wd} (hw : Ls o l) {S : List Nat} (hv : Vp (deskO o) l (Pl' S)) : A43 B53 (deskO o) l (Pl' S) = some (nfo o (rmw l S), deskO o, l, []) := by
 rw [A43_nf (hw.refl h) hv]
 unfold nfo
 rw [rmw_length, nf_congr abc _ fun x hx y hy => ?_]
 have hlt : ∀ k ∈ S, k < l.length := by have := hv.2.2.2.2.2; rwa [kz_Pl] at this
 exact Dk_Do h hw x (rmw_mem hlt hx) y (rmw_mem hlt hy)
def B22 : Of → Wd → Wd → Option (Wd × Int) := fun o a b => some (if errA o [a, b] = 0 then (match rst (Do o) a b with
 | some r => (nfo o r, 0)
 | none => ([], 14)) else ([], errA o [a, b]))
theorem B53_of {o : Of} (h : errO o = 0) {l : Wd} (hw : Ls o l) {S : List Nat} (hv : Vp (deskO o) l (Pl' S)) (x : UInt8) :
  (∃ i : Nat, B53 (x.toNat : Int) (deskO o) l (Pl' S) = some ((i : Int), true, deskO o, l, Pl' S) ∧ i ∈ S ∧ tk (Do o) x (rmw l S) = some (rmw l (S.erase i))) ∨
  (B53 (x.toNat : Int) (deskO o) l (Pl' S) = some (0, false, deskO o, l, Pl' S) ∧ tk (Do o) x (rmw l S) = none) := by
 have hs : S.Pairwise (· < ·) := by have := hv.2.2.2.2.1; rwa [kz_Pl] at this
 have hlt : ∀ k ∈ S, k < l.length := by have := hv.2.2.2.2.2; rwa [kz_Pl] at this
 obtain ⟨f1, f2⟩ := fnd_tk (D := Dk (deskO o)) (log := l) hs (x := x) fun hm => hw.refl h x (rmw_mem hlt hm)
 have hc : tk (Dk (deskO o)) x (rmw l S) = tk (Do o) x (rmw l S) := tk_congr (fun x hx y hy => Dk_Do h hw x (rmw_mem hlt hx) y (rmw_mem hlt hy)) x
 have e : B53 (x.toNat : Int) (deskO o) l (Pl' S) = some (match fnd (Dk (deskO o)) l S (x.toNat : Int) with
  | some i => ((i : Int), true, deskO o, l, Pl' S)
  | none => (0, false, deskO o, l, Pl' S)) := by
  unfold B53; rw [if_pos hv, kz_Pl]; rfl
 rw [e]
 cases hf : fnd (Dk (deskO o)) l S (x.toNat : Int) with
 | some i => exact .inl ⟨i, rfl, (f1 i hf).1, hc ▸ (f1 i hf).2⟩
 | none => exact .inr ⟨rfl, hc ▸ f2 hf⟩
theorem kb22 : FnOk Tryd.prog 22 (F22 B22) := ok22 C41 B42 (A43 B53) B53 kc41 kb42 (ok43 kb53) kb53 B22 fun o a b r h => ⟨20, by
 obtain rfl := Option.some.inj h
 unfold m22
 by_cases he : errA o [a, b] = 0
 ·obtain ⟨h1, h2⟩ := errA_word he (l := a) (by simp)
  obtain ⟨h3, h4⟩ := errA_word he (l := b) (by simp)
  have h0 := (errA_zero he).1
  rw [C41_good (by simp) he, if_pos he, Option.bind_some]
  show cond false _ _ = _
  rw [cond_false, B42_word _ h3, Option.bind_some]
  refine (rangeIx a 0 (fun n (s : List Int × Wd × Lf) t => l22a C41 B42 (A43 B53) B53 20 a n t s.1 s.2.1 s.2.2) (fun t r s => ∃ S, s = (deskO o, b, Pl' S) ∧ Vp (deskO o) b (Pl' S)) (fun t r s => some (match rst (Do o) r (rmw b (kz s.2.2)) with
   | some q => (nfo o q, 0)
   | none => ([], 14))) (fun n s t x rest q1 q2 hI ih => ?_) (fun n s hI => ?_) 20 (deskO o, b, Pl' (List.range b.length)) (by omega) ⟨_, rfl, Vp_word h0 h3 h4⟩).trans ?_
  ·show l22a C41 B42 (A43 B53) B53 20 a (n + 1) (t : Int) s.1 s.2.1 s.2.2 = _
   obtain ⟨S, rfl, hv⟩ := hI
   rw [l22a, ixA q1, cond_true, ixB q1, chk_true, Int.toNat_natCast, q2, ixW q1 (by omega)]
   simp only [kz_Pl, rst]
   rcases B53_of h0 h4 hv x with ⟨i, e1, e2, e3⟩ | ⟨e1, e3⟩
   ·rw [e1, Option.bind_some, e3]
    simp only [Bool.not_true, cond_false, Option.bind_some]
    have := ih (deskO o, b, Pl' (S.erase i)) ⟨_, rfl, hv.erase i⟩
    simp only [kz_Pl] at this
    rw [← this]
    have em : mdel (kt := .int .i64) (vt := .bool) (Pl' S) ((i : Nat) : Int) = Pl' (S.erase i) := mdel_Pl i _
    rw [em]
   ·rw [e1, Option.bind_some, e3]; rfl
  ·show l22a C41 B42 (A43 B53) B53 20 a (n + 1) (a.length : Int) s.1 s.2.1 s.2.2 = _
   obtain ⟨S, rfl, hv⟩ := hI
   rw [l22a, ixE, cond_false]
   simp only [kz_Pl, rst]
   rw [A43_word h0 h4 hv]; rfl
  ·simp only [kz_Pl, rmw_range]
 ·obtain ⟨d, hd⟩ := C41_bad (ls := [a, b]) (by simp) he
  rw [hd, if_neg he, Option.bind_some]
  have : (errA o [a, b] != 0) = true := by simpa using he
  simp only [this, cond_true]⟩
theorem Ls.asc {o : Of} (h : errO o = 0) {l : Wd} (hl : Ls o l) : Go.Proofs.YtmpbbkldopfkpaaDoor.asc l = true := by
 have := (errO_zero h).1
 unfold Go.Proofs.YtmpbbkldopfkpaaDoor.asc
 rw [List.all_eq_true]
 intro b hb
 have := hl b hb
 exact decide_eq_true (by omega)
end Go.Proofs.YtmpbbkldopfkpaaDoor
