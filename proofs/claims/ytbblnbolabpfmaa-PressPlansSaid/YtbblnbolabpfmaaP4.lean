/-
  The greedy set.
-/
import Derived.Test.YtbblnbolabpfmaaP3
import Derived.Test.YtbblnbolabpfmaaFit
namespace Go.Proofs.Ytbblnbolabpfmaa
open Go.RowKit
set_option linter.unusedVariables false

/-! ### what is sorted -/
theorem insRev_pw {R : Int → Int → Prop} (tr : ∀ a b c, R a b → R b c → R a c) {lt : Int → Int → Bool} {x : Int} : ∀ {P : List Int}, (∀ y ∈ P, lt x y = true → R x y) → (∀ y ∈ P, lt x y = false → R y x) → P.Pairwise (fun a b => R b a) → (insRev lt x P).Pairwise (fun a b => R b a)
  | [], _, _, _ => by simp [insRev]
  | y :: r, h1, h2, hp => by
    obtain ⟨p1, p2⟩ := List.pairwise_cons.1 hp
    rw [insRev]
    cases hc : lt x y with
    | true =>
      rw [cond_true]
      refine List.pairwise_cons.2 ⟨fun z hz => ?_, insRev_pw tr (fun z hz => h1 z (List.mem_cons_of_mem _ hz)) (fun z hz => h2 z (List.mem_cons_of_mem _ hz)) p2⟩
      rcases List.mem_cons.1 ((insRev_perm lt x r).mem_iff.1 hz) with rfl | hz
      · exact h1 y (by simp) hc
      · exact p1 z hz
    | false =>
      rw [cond_false]
      have hyx := h2 y (by simp) hc
      refine List.pairwise_cons.2 ⟨fun z hz => ?_, hp⟩
      rcases List.mem_cons.1 hz with rfl | hz
      · exact hyx
      · exact tr _ _ _ (p1 z hz) hyx

theorem isort_fold_pw {R : Int → Int → Prop} (tr : ∀ a b c, R a b → R b c → R a c) {lt : Int → Int → Bool} : ∀ (L P : List Int), L.Pairwise (fun y x => (lt x y = true → R x y) ∧ (lt x y = false → R y x)) → (∀ y ∈ P, ∀ x ∈ L, (lt x y = true → R x y) ∧ (lt x y = false → R y x)) → P.Pairwise (fun a b => R b a) → (L.foldl (fun P x => insRev lt x P) P).Pairwise (fun a b => R b a)
  | [], P, _, _, hp => hp
  | x :: L, P, hL, hPL, hp => by
    obtain ⟨l1, l2⟩ := List.pairwise_cons.1 hL
    refine isort_fold_pw tr L _ l2 (fun y hy z hz => ?_) (insRev_pw tr (fun y hy => (hPL y hy x (by simp)).1) (fun y hy => (hPL y hy x (by simp)).2) hp)
    rcases List.mem_cons.1 ((insRev_perm lt x P).mem_iff.1 hy) with rfl | hy
    · exact l1 z hz
    · exact hPL y hy z (List.mem_cons_of_mem _ hz)

theorem isortR_pw {R : Int → Int → Prop} (tr : ∀ a b c, R a b → R b c → R a c) {lt : Int → Int → Bool} {L : List Int} (hL : L.Pairwise (fun y x => (lt x y = true → R x y) ∧ (lt x y = false → R y x))) : (isortR lt L).Pairwise R := by
  unfold isortR
  exact List.pairwise_reverse.2 (isort_fold_pw tr L [] hL (fun _ h => by cases h) .nil)

def ixs (n : Nat) : List Int := (List.range n).map Int.ofNat
theorem ixs_len (n : Nat) : (ixs n).length = n := by simp [ixs]
theorem ixs_succ (n : Nat) : ixs (n + 1) = ixs n ++ [(n : Int)] := by simp [ixs, List.range_succ]
theorem ixs_mem {n : Nat} {i : Int} : i ∈ ixs n ↔ 0 ≤ i ∧ i < n := by
  simp only [ixs, List.mem_map, List.mem_range]
  constructor
  · rintro ⟨k, hk, rfl⟩; exact ⟨Int.natCast_nonneg k, by show (k : Int) < n; omega⟩
  · intro h; exact ⟨i.toNat, by omega, by show ((i.toNat : Nat) : Int) = i; omega⟩
theorem ixs_lt (n : Nat) : (ixs n).Pairwise (· < ·) := by
  unfold ixs
  exact List.pairwise_map.2 (List.pairwise_lt_range.imp fun h => Int.ofNat_lt.2 h)
theorem ixs_nodup (n : Nat) : (ixs n).Nodup := (ixs_lt n).imp fun h => by omega

/-- By falling fines. -/
def byFine (l : List Od) : List Int := isortR (lt78 l) (ixs l.length)

theorem bef_trans {f : Nat → Int} {a b c : Nat} (h1 : bef f a b = true) (h2 : bef f b c = true) : bef f a c = true := by
  simp only [bef, Bool.or_eq_true, Bool.and_eq_true, decide_eq_true_eq] at *
  omega

theorem byFine_pw (l : List Od) : (byFine l).Pairwise fun a b => bef (fnl l) a.toNat b.toNat = true := by
  refine isortR_pw (R := fun a b => bef (fnl l) a.toNat b.toNat = true) (fun a b c => bef_trans) ?_
  refine (List.Pairwise.and_mem.1 (ixs_lt l.length)).imp fun {y x} h => ?_
  obtain ⟨hy, hx, hlt⟩ := h
  have hy := ixs_mem.1 hy
  have hx := ixs_mem.1 hx
  constructor
  · intro h
    have h : (l.getD y.toNat d3).2.1 < (l.getD x.toNat d3).2.1 := of_decide_eq_true h
    have : decide (fnl l y.toNat < fnl l x.toNat) = true := decide_eq_true h
    simp [bef, this]
  · intro h
    have h : ¬ (l.getD y.toNat d3).2.1 < (l.getD x.toNat d3).2.1 := of_decide_eq_false h
    show bef (fnl l) y.toNat x.toNat = true
    by_cases q : (l.getD x.toNat d3).2.1 < (l.getD y.toNat d3).2.1
    · have : decide (fnl l x.toNat < fnl l y.toNat) = true := decide_eq_true q
      simp [bef, this]
    · have h1 : decide (fnl l y.toNat = fnl l x.toNat) = true := decide_eq_true (by show (l.getD y.toNat d3).2.1 = (l.getD x.toNat d3).2.1; omega)
      have h2 : decide (y.toNat < x.toNat) = true := decide_eq_true (by omega)
      rw [bef, h1, h2, Bool.and_true, Bool.or_true]

theorem byFine_mem {l : List Od} {i : Int} : i ∈ byFine l ↔ 0 ≤ i ∧ i < l.length := by
  rw [← ixs_mem]; exact (isortR_perm _ _).mem_iff
theorem byFine_nodup (l : List Od) : (byFine l).Nodup := (isortR_perm _ _).nodup_iff.2 (ixs_nodup _)

/-! ### the greedy set -/
def grd (l : List Od) : List Int → List Int → List Int
  | [], s => s
  | i :: r, s => cond (s.contains i) (grd l r s) (cond (fo 0 (srt (daysOf l (s ++ [i]))) == 0) (grd l r (s ++ [i])) (grd l r s))
def greedy (l : List Od) (s : List Int) : List Int := srt (grd l (byFine l) s)

theorem mem_app (s : List Int) (x i : Nat) : mem (s ++ [(x : Int)]) i = ins (mem s) x i := by
  simp only [mem, ins, List.contains_append]
  by_cases h : i = x
  · subst h; simp
  · have h2 : (i == x) = false := by simpa using h
    have h3 : ((i : Int) == (x : Int)) = false := by simp; omega
    have h4 : ([(x : Int)].contains (i : Int)) = false := by simp; omega
    rw [h4, h2]

theorem Ix.app {n : Nat} {s : List Int} (h : Ix n s) {x : Nat} (hx : x < n) (hm : mem s x = false) : Ix n (s ++ [(x : Int)]) := by
  refine ⟨fun i hi => ?_, ?_⟩
  · rcases List.mem_append.1 hi with hi | hi
    · exact h.rng i hi
    · rcases List.mem_singleton.1 hi with rfl; omega
  · rw [List.nodup_append]
    refine ⟨h.nd, by simp, fun a ha b hb => ?_⟩
    rcases List.mem_singleton.1 hb with rfl
    intro e; subst e
    have : mem s x = true := List.contains_iff_mem.2 ha
    rw [hm] at this; cases this

theorem Ix.perm {n : Nat} {s t : List Int} (h : Ix n s) (p : t.Perm s) : Ix n t := ⟨fun i hi => h.rng i (p.mem_iff.1 hi), p.nodup_iff.2 h.nd⟩
theorem mem_perm {s t : List Int} (p : t.Perm s) (i : Nat) : mem t i = mem s i := by
  unfold mem
  cases h : s.contains (i : Int) with
  | true => exact List.contains_iff_mem.2 (p.mem_iff.2 (List.contains_iff_mem.1 h))
  | false =>
    cases h2 : t.contains (i : Int) with
    | false => rfl
    | true => have := List.contains_iff_mem.2 (p.mem_iff.1 (List.contains_iff_mem.1 h2)); rw [h] at this; cases this

/-- What holds on the way. -/
structure GI (l : List Od) (A : Nat → Bool) (D : List Int) (s : List Int) : Prop where
  ix : Ix l.length s
  pos : Pos (dyl l) l.length (mem s)
  sub : ∀ i, i < l.length → A i = true → mem s i = true
  J : ∀ i : Nat, mem s i = true → A i = true ∨ (i : Int) ∈ D
  K : ∀ e : Nat, e < l.length → (e : Int) ∈ D → mem s e = false → ¬ Pos (dyl l) l.length (ins (fun i => mem s i && (A i || bef (fnl l) i e)) e)

theorem grd_ok {l : List Od} (h1 : ∀ o ∈ l, 1 ≤ o.1) {A : Nat → Bool} : ∀ (R D s : List Int), (D ++ R).Pairwise (fun a b => bef (fnl l) a.toNat b.toNat = true) → (∀ i ∈ R, 0 ≤ i ∧ i < l.length) → GI l A D s → GI l A (D ++ R) (grd l R s)
  | [], D, s, _, _, h => by rw [List.append_nil]; exact h
  | i :: R, D, s, hp, hr, h => by
    have hi := hr i (by simp)
    obtain ⟨k, rfl⟩ : ∃ k : Nat, i = k := ⟨i.toNat, by omega⟩
    have hk : k < l.length := by omega
    have ee : D ++ (k : Int) :: R = (D ++ [(k : Int)]) ++ R := by simp
    have hr' : ∀ i ∈ R, 0 ≤ i ∧ i < l.length := fun i hi => hr i (List.mem_cons_of_mem _ hi)
    have hbef : ∀ d ∈ D, bef (fnl l) d.toNat k = true := fun d hd => (List.pairwise_append.1 hp).2.2 d hd (k : Int) (by simp)
    rw [ee] at hp ⊢
    rw [grd]
    cases hc : s.contains (k : Int) with
    | true =>
      rw [cond_true]
      refine grd_ok h1 R _ s hp hr' ⟨h.ix, h.pos, h.sub, fun i hi => (h.J i hi).imp id fun q => List.mem_append_left _ q, fun e he hD hm => ?_⟩
      rcases List.mem_append.1 hD with hD | hD
      · exact h.K e he hD hm
      · have : e = k := by have := List.mem_singleton.1 hD; omega
        subst this
        have : mem s e = true := hc
        rw [hm] at this; cases this
    | false =>
      have hmk : mem s k = false := hc
      have hix := h.ix.app hk hmk
      have hFO := (fo_FO h1 hix).congr fun i _ => mem_app s k i
      rw [cond_false]
      cases hf : fo 0 (srt (daysOf l (s ++ [(k : Int)]))) == 0 with
      | true =>
        rw [cond_true]
        have hpos := hFO.zero.1 (by simpa using hf)
        refine grd_ok h1 R _ _ hp hr' ⟨hix, fun d => ?_, fun i hi ha => ?_, fun i hi => ?_, fun e he hD hm hq => ?_⟩
        · have : by_ (dyl l) l.length (mem (s ++ [(k : Int)])) d = by_ (dyl l) l.length (ins (mem s) k) d := cnt_congr fun i _ => by rw [mem_app]
          rw [this]; exact hpos d
        · rw [mem_app]; simp [ins, h.sub i hi ha]
        · rw [mem_app] at hi
          simp only [ins, Bool.or_eq_true, beq_iff_eq] at hi
          rcases hi with hi | rfl
          · exact (h.J i hi).imp id fun q => List.mem_append_left _ q
          · exact .inr (by simp)
        · rw [mem_app] at hm
          simp only [ins, Bool.or_eq_false_iff] at hm
          have hek : e ≠ k := by simpa using hm.2
          rcases List.mem_append.1 hD with hD | hD
          · refine h.K e he hD hm.1 (hq.sub (ins_sub fun j _ hj => ?_))
            simp only [Bool.and_eq_true] at hj ⊢
            refine ⟨?_, hj.2⟩
            rw [mem_app]; simp [ins, hj.1]
          · exact hek (by have := List.mem_singleton.1 hD; omega)
      | false =>
        rw [cond_false]
        have hno : ¬ Pos (dyl l) l.length (ins (mem s) k) := fun q => by
          have := hFO.zero.2 q
          rw [this] at hf; simp at hf
        refine grd_ok h1 R _ s hp hr' ⟨h.ix, h.pos, h.sub, fun i hi => (h.J i hi).imp id fun q => List.mem_append_left _ q, fun e he hD hm hq => ?_⟩
        rcases List.mem_append.1 hD with hD | hD
        · exact h.K e he hD hm hq
        · have : e = k := by have := List.mem_singleton.1 hD; omega
          subst this
          refine hno (hq.sub (ins_sub fun j _ hj => ?_))
          simp only [Bool.and_eq_true, Bool.or_eq_true]
          exact ⟨hj, (h.J j hj).imp id fun q => by simpa using hbef _ q⟩

theorem greedy_ix {l : List Od} (h1 : ∀ o ∈ l, 1 ≤ o.1) {s : List Int} (hs : Ix l.length s) (hp : Pos (dyl l) l.length (mem s)) : Ix l.length (greedy l s) ∧ Gr (dyl l) (fnl l) l.length (mem s) (mem (greedy l s)) := by
  have h := grd_ok h1 (A := mem s) (byFine l) [] s (by simpa using byFine_pw l) (fun i hi => byFine_mem.1 hi) ⟨hs, hp, fun i _ h => h, fun i h => .inl h, fun e _ hD => by cases hD⟩
  rw [List.nil_append] at h
  have pm := srt_perm (grd l (byFine l) s)
  have e : ∀ i, mem (greedy l s) i = mem (grd l (byFine l) s) i := mem_perm pm
  have e2 : mem (greedy l s) = mem (grd l (byFine l) s) := funext e
  refine ⟨h.ix.perm pm, ?_⟩
  rw [e2]
  exact ⟨h.pos, h.sub, fun e he hG => h.K e he (byFine_mem.2 ⟨by omega, by omega⟩) hG⟩

theorem greedy_sorted (l : List Od) (s : List Int) : (greedy l s).Pairwise (fun a b => decide (a ≤ b) = true) := srt_sorted _

/-! ### contains -/
def B63 (s : List Int) (v : Int) : Option Bool := if s.length ≤ 1000 then some (s.contains v) else none
def B81 (s : List Int) (v : Int) : Option Int := if s.length ≤ 1000 then some (fx (fun x => v == x) 0 s) else none
theorem KB81 : FnOk Try.prog 81 (F81 B81) := ok81 B81 fun s v r h => ⟨1001, by
  simp only [B81] at h
  split at h
  · rename_i hl
    rw [← h, m81]
    exact rangeIx s 0 (fun n (_ : Unit) t => l81a 1001 s v n t) (fun _ _ _ => True) (fun t xs _ => some (fx (fun x => v == x) t xs))
      (fun n _ t x rest ht hx _ ih => by
        simp only [l81a, ixA ht, ixB ht, cond_true, chk_true, Int.toNat_natCast, ixW ht (by omega), hx, ih () trivial, fx]
        cases v == x <;> rfl)
      (fun n _ _ => by simp only [l81a, ixE, cond_false]; rfl) 1001 () (by omega) trivial
  · cases h⟩
theorem KB63 : FnOk Try.prog 63 (F63 B63) := ok63 B81 KB81 B63 fun s v r h => ⟨0, by
  simp only [B63] at h
  split at h
  · rename_i hl
    rw [← h, m63, B81, if_pos hl, Option.bind_some, fx_ge _ s 0 (by omega), List.contains_eq_any_beq]
  · cases h⟩

/-! ### fits -/
def B77 (s : List Int) : Option (List Int) := some s
theorem KB77 : FnOk Try.prog 77 (F77 B77) := ok77 B77 fun s r h => ⟨0, by
  rw [← h, m77]
  have : (decide (0 ≤ (s.length : Int) ∧ (s.length : Int) ≤ (s.length : Int)) && decide ((s.length : Int) = (s.length : Int))) = true := by simp
  rw [this, chk_true, Int.toNat_natCast, List.take_length]; rfl⟩
def B76 (i : Int) (l : List Od) (s : List Int) : Option Bool :=
  if l.length ≤ 1000 ∧ s.length + 1 ≤ 1000 ∧ ∀ j ∈ s ++ [i], 0 ≤ j ∧ j < (l.length : Int) then some (fo 0 (srt (daysOf l (s ++ [i]))) == 0) else none
theorem KB76c : FnOk Try.prog 76 (F76c B76) := ok76c B50 B77 KB50 KB77 B76 fun i l s r h => ⟨0, by
  simp only [B76] at h
  split at h
  · rename_i hh
    rw [← h, m76c, B77, Option.bind_some, small_of (by omega) (by decide), chk_true, B50, if_pos ⟨hh.1, by simp; omega, hh.2.2⟩, Option.bind_some]
  · cases h⟩
theorem KB76v : FnOk Try.prog 76 (F76cv2 (A76v B76)) := ok76v KB76c

/-! ### press.greedy -/
def B55v (l : List Od) (s : List Int) : Option (List Int) :=
  if l.length < 20 ∧ s.length ≤ 100 ∧ ∀ i ∈ s, 0 ≤ i ∧ i < (l.length : Int) then some (greedy l s) else none
def B55 (l : List Od) : Option (List Int) := B55v l []

theorem ixs_fill {n t : Nat} (h : t < n) : (ixs t ++ List.replicate (n - t) (0 : Int)).set t (t : Int) = ixs (t + 1) ++ List.replicate (n - (t + 1)) 0 := by
  rw [ixs_succ, show n - t = (n - (t + 1)) + 1 by omega, List.replicate_succ]
  have := ixs_len t
  rw [List.set_append_right _ _ (by omega), this, Nat.sub_self, List.set_cons_zero]
  simp

theorem byFine_len (l : List Od) : (byFine l).length = l.length := by rw [byFine, (isortR_perm _ _).length_eq, ixs_len]

theorem inR_iff {l : List Od} {i : Int} : inR l i = true ↔ 0 ≤ i ∧ i < (l.length : Int) := by simp [inR]

theorem B60_idx (l : List Od) (h : l.length < 20) : B60 lt78 (ixs l.length) l = some (byFine l, l) := if_pos ⟨by rw [ixs_len]; exact h, fun i hi => inR_iff.2 (ixs_mem.1 hi)⟩

/-- The loop over the orders, in both texts. -/
theorem grd_step {l : List Od} (hl : l.length < 20) {x : Int} {rest s : List Int} {hs : s.length + (x :: rest).length ≤ 200} (hr : ∀ i ∈ s ++ x :: rest, 0 ≤ i ∧ i < (l.length : Int)) : B63 s x = some (s.contains x) ∧ A76v B76 x l s = some (fo 0 (srt (daysOf l (s ++ [x]))) == 0, l, s) ∧ small (s.length + 1) 8 = true := by
  simp only [List.length_cons] at hs
  refine ⟨if_pos (by omega), ?_, small_of (by omega) (by decide)⟩
  have hc : ∀ j ∈ s ++ [x], 0 ≤ j ∧ j < (l.length : Int) := fun j hj => by
    rcases List.mem_append.1 hj with hj | hj
    · exact hr j (List.mem_append_left _ hj)
    · rcases List.mem_singleton.1 hj with rfl; exact hr _ (List.mem_append_right _ (by simp))
  rw [A76v, B76, if_pos ⟨by omega, by omega, hc⟩]; rfl

theorem grd_len (l : List Od) : ∀ (R s : List Int), (grd l R s).length ≤ s.length + R.length
  | [], s => by simp [grd]
  | i :: R, s => by
    rw [grd]
    have a := grd_len l R s
    have b := grd_len l R (s ++ [i])
    simp only [List.length_append, List.length_cons, List.length_nil] at *
    cases s.contains i with
    | true => rw [cond_true]; omega
    | false =>
      rw [cond_false]
      cases fo 0 (srt (daysOf l (s ++ [i]))) == 0 with
      | true => rw [cond_true]; omega
      | false => rw [cond_false]; omega

theorem KB55v : FnOk Try.prog 55 (F55cv1 B55v) := ok55cv1 (B60 lt78) B63 A70 (A76v B76) KB60c78 KB63 ok70 KB76v B55v fun l s r h => ⟨1001, by
  simp only [B55v] at h
  split at h
  · rename_i hh
    obtain ⟨hl, hsl, hsr⟩ := hh
    have loop2 : l55cv1b (B60 lt78) B63 A70 (A76v B76) 1001 (byFine l, l) 1001 0 s l = some (greedy l s) :=
      rangeInv (byFine l) 0 (fun n (o : List Int) t => l55cv1b (B60 lt78) B63 A70 (A76v B76) 1001 (byFine l, l) n t o l) (fun xs o => o.length + xs.length ≤ 200 ∧ ∀ i ∈ o ++ xs, 0 ≤ i ∧ i < (l.length : Int)) (fun xs o => some (srt (grd l xs o)))
        (fun n o t x rest ht hx hI ih => by
          obtain ⟨a, b, c⟩ := grd_step hl (hs := hI.1) hI.2
          obtain ⟨hI1, hI2⟩ := hI
          simp only [List.length_cons] at hI1
          simp only [l55cv1b, ixA ht, ixB ht, cond_true, chk_true, Int.toNat_natCast, ixW ht (by rw [byFine_len]; omega), hx, a, b, c, Option.bind_some]
          rw [ih (o ++ [x]) ⟨by simp; omega, fun i hi => hI2 i (by simpa using hi)⟩, ih o ⟨by omega, fun i hi => hI2 i (by
            rcases List.mem_append.1 hi with hi | hi
            · exact List.mem_append_left _ hi
            · exact List.mem_append_right _ (List.mem_cons_of_mem _ hi))⟩]
          rw [grd]
          cases s2 : o.contains x
          · simp only [Bool.not_false, cond_true, cond_false]
            cases fo 0 (srt (daysOf l (o ++ [x]))) == 0 <;> rfl
          · rfl)
        (fun n o hI => by
          simp only [l55cv1b, ixE, cond_false]
          have := hI.1
          rw [A70, if_pos (by simp only [List.length_nil] at this; omega), Option.bind_some]; rfl) 1001 s (by rw [byFine_len]; omega) ⟨by rw [byFine_len]; omega, fun i hi => by
            rcases List.mem_append.1 hi with hi | hi
            · exact hsr i hi
            · exact byFine_mem.1 hi⟩
    have loop1 : l55cv1a (B60 lt78) B63 A70 (A76v B76) 1001 l s 1001 0 (List.replicate l.length 0) = some (greedy l s) := by
      refine rangeIx (List.replicate l.length (0 : Int)) 0 (fun n (o : List Int) t => l55cv1a (B60 lt78) B63 A70 (A76v B76) 1001 l s n t o) (fun t xs o => t ≤ l.length ∧ o = ixs t ++ List.replicate (l.length - t) 0) (fun t xs o => some (greedy l s))
        (fun n o t x rest ht hx hI ih => ?_) (fun n o hI => ?_) 1001 _ (by simp; omega) ⟨by omega, by simp [ixs]⟩
      · obtain ⟨h1, rfl⟩ := hI
        have ht' : t < l.length := by simpa using ht
        have hlen : (ixs t ++ List.replicate (l.length - t) (0 : Int)).length = l.length := by simp [ixs]; omega
        have hb : decide ((0 : Int) ≤ (t : Int) ∧ (t : Int) < ((ixs t ++ List.replicate (l.length - t) (0 : Int)).length : Int)) = true := by rw [hlen]; exact decide_eq_true (by omega)
        have ha : decide ((t : Int) < ((List.replicate l.length (0 : Int)).length : Int)) = true := by simp; omega
        simp only [l55cv1a, ha, hb, cond_true, chk_true, Int.toNat_natCast, w64_succ (show t < 4611686018427387904 by omega), ixs_fill ht']
        exact ih _ ⟨by omega, rfl⟩
      · obtain ⟨h1, rfl⟩ := hI
        have ha : decide (((List.replicate l.length (0 : Int)).length : Int) < ((List.replicate l.length (0 : Int)).length : Int)) = false := by simp
        have e : ixs (List.replicate l.length (0 : Int)).length ++ List.replicate (l.length - (List.replicate l.length (0 : Int)).length) (0 : Int) = ixs l.length := by simp
        rw [e]
        simp only [l55cv1a, Int.toNat_natCast, ha, cond_false, B60_idx l hl, Option.bind_some]
        exact loop2
    rw [← h, m55cv1, mkOk_of (by omega) (by omega) (by omega) (by omega), chk_true, Int.toNat_natCast]
    exact loop1
  · cases h⟩

theorem KB55 : FnOk Try.prog 55 (F55c B55) := ok55c (B60 lt78) B63 A70 (A76v B76) KB60c78 KB63 ok70 KB76v B55 fun l r h => ⟨1001, by
  simp only [B55, B55v] at h
  split at h
  · rename_i hh
    obtain ⟨hl, hsl, hsr⟩ := hh
    have loop2 : l55cb (B60 lt78) B63 A70 (A76v B76) 1001 (byFine l, l) 1001 0 [] l = some (greedy l []) :=
      rangeInv (byFine l) 0 (fun n (o : List Int) t => l55cb (B60 lt78) B63 A70 (A76v B76) 1001 (byFine l, l) n t o l) (fun xs o => o.length + xs.length ≤ 200 ∧ ∀ i ∈ o ++ xs, 0 ≤ i ∧ i < (l.length : Int)) (fun xs o => some (srt (grd l xs o)))
        (fun n o t x rest ht hx hI ih => by
          obtain ⟨a, b, c⟩ := grd_step hl (hs := hI.1) hI.2
          obtain ⟨hI1, hI2⟩ := hI
          simp only [List.length_cons] at hI1
          simp only [l55cb, ixA ht, ixB ht, cond_true, chk_true, Int.toNat_natCast, ixW ht (by rw [byFine_len]; omega), hx, a, b, c, Option.bind_some]
          rw [ih (o ++ [x]) ⟨by simp; omega, fun i hi => hI2 i (by simpa using hi)⟩, ih o ⟨by omega, fun i hi => hI2 i (by
            rcases List.mem_append.1 hi with hi | hi
            · exact List.mem_append_left _ hi
            · exact List.mem_append_right _ (List.mem_cons_of_mem _ hi))⟩]
          rw [grd]
          cases s2 : o.contains x
          · simp only [Bool.not_false, cond_true, cond_false]
            cases fo 0 (srt (daysOf l (o ++ [x]))) == 0 <;> rfl
          · rfl)
        (fun n o hI => by
          simp only [l55cb, ixE, cond_false]
          have := hI.1
          rw [A70, if_pos (by simp only [List.length_nil] at this; omega), Option.bind_some]; rfl) 1001 [] (by rw [byFine_len]; omega) ⟨by rw [byFine_len]; simp; omega, fun i hi => byFine_mem.1 (by simpa using hi)⟩
    have loop1 : l55ca (B60 lt78) B63 A70 (A76v B76) 1001 l 1001 0 (List.replicate l.length 0) = some (greedy l []) := by
      refine rangeIx (List.replicate l.length (0 : Int)) 0 (fun n (o : List Int) t => l55ca (B60 lt78) B63 A70 (A76v B76) 1001 l n t o) (fun t xs o => t ≤ l.length ∧ o = ixs t ++ List.replicate (l.length - t) 0) (fun t xs o => some (greedy l []))
        (fun n o t x rest ht hx hI ih => ?_) (fun n o hI => ?_) 1001 _ (by simp; omega) ⟨by omega, by simp [ixs]⟩
      · obtain ⟨h1, rfl⟩ := hI
        have ht' : t < l.length := by simpa using ht
        have hlen : (ixs t ++ List.replicate (l.length - t) (0 : Int)).length = l.length := by simp [ixs]; omega
        have hb : decide ((0 : Int) ≤ (t : Int) ∧ (t : Int) < ((ixs t ++ List.replicate (l.length - t) (0 : Int)).length : Int)) = true := by rw [hlen]; exact decide_eq_true (by omega)
        have ha : decide ((t : Int) < ((List.replicate l.length (0 : Int)).length : Int)) = true := by simp; omega
        simp only [l55ca, ha, hb, cond_true, chk_true, Int.toNat_natCast, w64_succ (show t < 4611686018427387904 by omega), ixs_fill ht']
        exact ih _ ⟨by omega, rfl⟩
      · obtain ⟨h1, rfl⟩ := hI
        have ha : decide (((List.replicate l.length (0 : Int)).length : Int) < ((List.replicate l.length (0 : Int)).length : Int)) = false := by simp
        have e : ixs (List.replicate l.length (0 : Int)).length ++ List.replicate (l.length - (List.replicate l.length (0 : Int)).length) (0 : Int) = ixs l.length := by simp
        rw [e]
        simp only [l55ca, Int.toNat_natCast, ha, cond_false, B60_idx l hl, Option.bind_some]
        exact loop2
    rw [← h, m55c, mkOk_of (by omega) (by omega) (by omega) (by omega), chk_true, Int.toNat_natCast]
    exact loop1
  · cases h⟩

end Go.Proofs.Ytbblnbolabpfmaa
