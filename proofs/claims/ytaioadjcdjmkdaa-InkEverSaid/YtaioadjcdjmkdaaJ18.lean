/-
  Colours that are given, and lists that exclude others.
-/
import Derived.Test.YtaioadjcdjmkdaaJ16
import Derived.Test.YtaioadjcdjmkdaaQM48c
import Derived.Test.YtaioadjcdjmkdaaQM46c48
namespace Go.Proofs.Ytaioadjcdjmkdaa
open Go.RowKit
set_option linter.unusedVariables false

/-! ### the first of all -/
theorem SX.lx {m : Nat} {o o' : List Int} (h : SX m o o') : lx o o' := by
  obtain ⟨pre, x, j, rfl, _, rfl⟩ := h
  have : ∀ (p : List Int) (u v : List Int), Go.Proofs.Ytaioadjcdjmkdaa.lx (p ++ (x : Int) :: u) (p ++ ((x + 1 : Nat) : Int) :: v) := fun p u v => by
    induction p with
    | nil => exact .inl (by omega)
    | cons a p ih => exact .inr ⟨rfl, ih⟩
  exact this ..
theorem Ls.asc {m : Nat} : ∀ {o : List Int} {T : List (List Int)} {z : List Int}, Ls m (o :: T) z → ∀ q ∈ T, Go.Proofs.Ytaioadjcdjmkdaa.lx o q
  | o, [], _, _, q, hq => by cases hq
  | o, o' :: T, z, h, q, hq => by
    rcases List.mem_cons.1 hq with rfl | hq
    · exact h.1.lx
    · exact lx_trans h.1.lx (Ls.asc h.2 q hq)
theorem Ls.pw {m : Nat} : ∀ {o : List Int} {T : List (List Int)} {z : List Int}, Ls m (o :: T) z → (o :: T).Pairwise Go.Proofs.Ytaioadjcdjmkdaa.lx
  | o, [], _, _ => by simp
  | o, o' :: T, z, h => List.pairwise_cons.2 ⟨Ls.asc h, Ls.pw h.2⟩
theorem find_none {p : Pal} (hp : PalOk p) {s k : Nat} {f : List Int → Bool} (hf : ∀ l, f l = true ↔ Sv p s l) (h : ∀ l, fewI p s = some l → k < l.length) : (allS p.2.1.length k).find? f = none := by
  rw [List.find?_eq_none]
  intro l hl hfl
  obtain ⟨l1, l2⟩ := allS_mem.1 hl
  obtain ⟨m, e, hm⟩ := few_of hp (l := l) l2 ((hf l).1 hfl)
  have := h m e
  have := sle_len hm
  omega
theorem find_some {p : Pal} (hp : PalOk p) {s : Nat} {f : List Int → Bool} (hf : ∀ l, f l = true ↔ Sv p s l) {l : List Int} (h : fewI p s = some l) : (allS p.2.1.length l.length).find? f = some l := by
  obtain ⟨h1, h2, h3⟩ := few_some hp h
  have hm : l ∈ allS p.2.1.length l.length := allS_mem.2 ⟨rfl, h1⟩
  obtain ⟨T, t1, t2⟩ := allS_ok (show 0 < p.2.1.length from hp.i1) l.length
  have pw := t2.pw
  rw [← t1] at pw
  cases e : (allS p.2.1.length l.length).find? f with
  | none => exact absurd ((hf l).2 h2) (List.find?_eq_none.1 e l hm)
  | some q =>
    obtain ⟨e1, us, bs, e2, e3⟩ := List.find?_eq_some_iff_append.1 e
    rw [e2] at hm pw
    have hq : q ∈ allS p.2.1.length l.length := by rw [e2]; simp
    obtain ⟨q1, q2⟩ := allS_mem.1 hq
    have hle := h3 q q2 ((hf q).1 e1)
    rcases List.mem_append.1 hm with hm | hm
    · have := e3 l hm
      rw [(hf l).2 h2] at this; simp at this
    · rcases List.mem_cons.1 hm with hm | hm
      · rw [hm]
      · have hlt := (List.pairwise_cons.1 (List.pairwise_append.1 pw).2.1).1 l hm
        rcases hle with hle | hle | ⟨_, hle⟩
        · rw [hle]
        · omega
        · exact absurd (lx_trans hle hlt) lx_irr
/-! ### the walk -/
def B48 (l : List Int) (p1 : List Pal) (c : Int) : Option (Bool × List Int × List Pal × Int) := if okS (p1.getD 0 dP) l = true ∧ l.length ≤ 12 ∧ 0 ≤ c ∧ c < ((p1.getD 0 dP).1.toNat : Int) then some ((givI (p1.getD 0 dP) l).testBit c.toNat, l, p1, c) else none
theorem KB48 : FnOk Try.prog 48 (F48c B48) := ok48c B43 KB43 B48 fun l p1 c r h => ⟨0, by
  simp only [B48] at h
  split at h
  · rename_i hf
    obtain ⟨h1, h2, h3, h4⟩ := hf
    obtain ⟨hp, _, hs⟩ := okS_ok.1 h1
    rw [← h, m48c]
    generalize hpp : p1.getD 0 dP = p at *
    have hlen := (lea_lst hp hs).len
    have e2 := lea_pos hp hs (c := c.toNat) (by omega)
    rw [B43_ok hp hs h2, Option.bind_some, decide_eq_true (by omega : 0 ≤ c ∧ c < ((leaI p l).length : Int)), chk_true]
    have : decide ((leaI p l).getD c.toNat 0 ≥ 0) = (givI p l).testBit c.toNat := by rw [Bool.eq_iff_iff, decide_eq_true_eq]; exact e2
    rw [this]
  · cases h⟩
def B46e (inks size : Int) (p2 : List Pal) (c : Int) : Option (Bool × List Pal × Int) :=
  if ck (p2.getD 0 dP) = 0 ∧ inks = ((p2.getD 0 dP).2.1.length : Int) ∧ (0 ≤ size ∧ size ≤ 12) ∧ 0 ≤ c ∧ c < ((p2.getD 0 dP).1.toNat : Int) then some (((allS (p2.getD 0 dP).2.1.length size.toNat).find? fun l => (givI (p2.getD 0 dP) l).testBit c.toNat).isSome, p2, c) else none
theorem KB46e : FnOk Try.prog 46 (F46c48 B46e) := ok46c48 B48 KB48 B46e fun inks size p2 c r h => by
  simp only [B46e] at h
  split at h
  · rename_i hf
    obtain ⟨h1, rfl, h3, h4⟩ := hf
    have hp := ck_ok.1 h1
    generalize hpp : p2.getD 0 dP = p at *
    obtain ⟨k, rfl⟩ : ∃ k : Nat, size = k := ⟨size.toNat, by omega⟩
    obtain ⟨T, t1, t2⟩ := allS_ok (m := p.2.1.length) (show 0 < p.2.1.length from hp.i1) k
    have hm := hp.i6
    refine ⟨1001 + T.length, ?_⟩
    have mk : mkOk (k : Int) (k : Int) 8 = true := by simp only [mkOk, Bool.and_eq_true, decide_eq_true_eq]; omega
    have ws : w64 ((k : Int) - 1) = (k : Int) - 1 := w64_small (by omega)
    rw [← h, m46c48, mk, chk_true, Int.toNat_natCast, t1]
    have chain : ∀ (N : Nat), 1000 < N → ∀ (T : List (List Int)) (o : List Int) (n : Nat), Ls p.2.1.length (o :: T) (List.replicate k ((p.2.1.length : Int) - 1)) → (∀ q ∈ o :: T, q ∈ allS p.2.1.length k) → T.length < n →
        l46c48a B48 N (p.2.1.length : Int) (k : Int) n p2 c o = some (((o :: T).find? fun l => (givI p l).testBit c.toNat).isSome, p2, c) := by
      intro N hN T
      induction T with
      | nil =>
        intro o n hl hq hn
        obtain ⟨n, rfl⟩ : ∃ q, n = q + 1 := ⟨n - 1, by omega⟩
        obtain ⟨ol, os⟩ := allS_mem.1 (hq o (by simp))
        have b : B48 o p2 c = some ((givI p o).testBit c.toNat, o, p2, c) := by
          rw [B48, hpp, if_pos ⟨okS_ok.2 ⟨hp, by omega, os⟩, by omega, h4⟩]
        simp only [l46c48a, b, Option.bind_some]
        cases e : (givI p o).testBit c.toNat with
        | true => simp only [cond_true, List.find?_cons, e]; rfl
        | false =>
          obtain rfl : o = _ := hl
          simp only [cond_false, ws, List.find?_cons, e, List.find?_nil]
          exact odo_last (m := p.2.1.length) (k := k) (L := fun n' i o => l46c48b B48 N (p.2.1.length : Int) (k : Int) (false, List.replicate k ((p.2.1.length : Int) - 1), p2, c) (fun y0 y1 y2 => l46c48a B48 N (p.2.1.length : Int) (k : Int) n y0 y1 y2) n' i o) (F := some (false, p2, c)) (R := fun o' => l46c48a B48 N (p.2.1.length : Int) (k : Int) n p2 c o') (fun n i o => rfl) (by omega) (by omega) hN
      | cons o' T ih =>
        intro o n hl hq hn
        obtain ⟨n, rfl⟩ : ∃ q, n = q + 1 := ⟨n - 1, by omega⟩
        obtain ⟨ol, os⟩ := allS_mem.1 (hq o (by simp))
        have b : B48 o p2 c = some ((givI p o).testBit c.toNat, o, p2, c) := by
          rw [B48, hpp, if_pos ⟨okS_ok.2 ⟨hp, by omega, os⟩, by omega, h4⟩]
        obtain ⟨l1, l2⟩ := hl
        simp only [l46c48a, b, Option.bind_some]
        cases e : (givI p o).testBit c.toNat with
        | true => simp only [cond_true]; rw [List.find?_cons_of_pos (p := fun l => (givI p l).testBit c.toNat) e]; rfl
        | false =>
          simp only [cond_false, ws]
          rw [List.find?_cons_of_neg (p := fun l => (givI p l).testBit c.toNat) (by simp only [e]; simp)]
          have := odo_next (m := p.2.1.length) (L := fun n' i q => l46c48b B48 N (p.2.1.length : Int) (k : Int) (false, o, p2, c) (fun y0 y1 y2 => l46c48a B48 N (p.2.1.length : Int) (k : Int) n y0 y1 y2) n' i q) (F := some (false, p2, c)) (R := fun o' => l46c48a B48 N (p.2.1.length : Int) (k : Int) n p2 c o') (fun n i o => rfl) (by omega) l1 (by omega) hN
          rw [ol] at this
          refine this.trans ?_
          exact ih o' n l2 (fun q hq' => hq q (by simp [hq'])) (by simpa using hn)
    exact chain (1001 + T.length) (by omega) T _ _ t2 (fun q hq => by rw [t1]; exact hq) (by omega)
  · cases h

/-! ### closed sets -/
theorem sub_eq {s t : Nat} (h1 : Sub s t) (h2 : Sub t s) : s = t := Nat.eq_of_testBit_eq fun c => by
  rw [Bool.eq_iff_iff]; exact ⟨h1 c, h2 c⟩
theorem one_sub {S : Nat} (h : S.testBit 0 = true) : Sub 1 S := fun c hc => by
  have : c = 0 := by
    have := lt_bit (n := 1) (by decide) hc; omega
  rw [this]; exact h
theorem closed_giv {p : Pal} (hp : PalOk p) {S : Nat} (hS : S < 2 ^ p.1.toNat) (h0 : S.testBit 0 = true) (hc : ∀ k ∈ p.2.1, addI k S = S) {l : List Int} (hl : SeqOk p l) : Sub (givI p l) S := by
  have fix : ∀ l : List Int, SeqOk p l → l.foldl (fun s i => addI (p.2.1.getD i.toNat []) s) S = S := by
    intro l
    induction l with
    | nil => intro _; rfl
    | cons x l ih =>
      intro h
      have hx := h x (by simp)
      rw [List.foldl_cons, hc _ (getD_mem (by omega))]
      exact ih fun y hy => h y (by simp [hy])
  have := fold_mono hp l 1 S hl (Nat.one_lt_two_pow (by have := (nat7 hp).1; omega)) hS (one_sub h0)
  rw [fix l hl] at this; exact this
theorem fix_all : ∀ (ks : List (List Int)) (s : Nat), ks.foldl (fun s k => addI k s) s = s → ∀ k ∈ ks, addI k s = s
  | [], s, _, k, hk => by cases hk
  | k0 :: ks, s, h, k, hk => by
    rw [List.foldl_cons] at h
    have e : addI k0 s = s := sub_eq (fun c hc => by have := bit_rd (i := c) ks _ hc; rw [h] at this; exact this) (sub_add _ _)
    rcases List.mem_cons.1 hk with rfl | hk
    · exact e
    · rw [e] at h; exact fix_all ks s h k hk
theorem all_inks {p : Pal} : ∀ (ks : List (List Int)) (t s : Nat), p.2.1.drop t = ks → ((List.range' t ks.length).map fun (i : Nat) => (i : Int)).foldl (fun s i => addI (p.2.1.getD i.toNat []) s) s = ks.foldl (fun s k => addI k s) s
  | [], t, s, _ => rfl
  | k :: ks, t, s, h => by
    obtain ⟨d1, d2, d3⟩ := getD_drop (d := ([] : List Int)) h
    rw [List.length_cons, List.range'_succ, List.map_cons, List.foldl_cons, List.foldl_cons, Int.toNat_natCast, d2]
    exact all_inks ks (t + 1) _ d3
theorem it_reach {p : Pal} : ∀ k, ∃ l, SeqOk p l ∧ givI p l = itI p k
  | 0 => ⟨[], (fun x hx => by cases hx), rfl⟩
  | k + 1 => by
    obtain ⟨l, h1, h2⟩ := it_reach (p := p) k
    refine ⟨l ++ (List.range' 0 p.2.1.length).map fun (i : Nat) => (i : Int), fun x hx => ?_, ?_⟩
    · rcases List.mem_append.1 hx with hx | hx
      · exact h1 x hx
      · simp only [List.mem_map, List.mem_range'_1] at hx
        obtain ⟨i, hi, rfl⟩ := hx; omega
    · rw [giv_split, h2, all_inks p.2.1 0 _ (by simp)]; rfl
theorem it_bit {p : Pal} (hp : PalOk p) {c : Nat} : (itI p p.1.toNat).testBit c = (fewI p (2 ^ c)).isSome := by
  have hS := it_lt hp p.1.toNat
  have cl := fix_all p.2.1 _ (it_fix hp)
  have z : ∀ k, (itI p k).testBit 0 = true := fun k => by
    induction k with
    | zero => show Nat.testBit 1 0 = true; decide
    | succ k ih => exact bit_rd _ _ ih
  rw [Bool.eq_iff_iff, Option.isSome_iff_exists]
  constructor
  · intro h
    obtain ⟨l, h1, h2⟩ := it_reach (p := p) p.1.toNat
    obtain ⟨m, e, _⟩ := few_of hp (want := 2 ^ c) h1 (sv_bit.2 (by rw [h2]; exact h))
    exact ⟨m, e⟩
  · rintro ⟨l, e⟩
    obtain ⟨h1, h2, _⟩ := few_some hp e
    exact closed_giv hp hS.2 (z _) cl h1 c (sv_bit.1 h2)
theorem it_z (p : Pal) : ∀ k, (itI p k).testBit 0 = true
  | 0 => by show Nat.testBit 1 0 = true; decide
  | k + 1 => bit_rd _ _ (it_z p k)
theorem B31_ok {p : Pal} (hp : PalOk p) {l : List Int} {s c : Nat} (hk : skI p l = (s, 0)) (hl : l.length ≤ 1000) (hc : c < p.1.toNat) : B31 p l (c : Int) = some (exI p s c) := by
  have := (nat7 hp).2.2
  rw [B31, if_pos ⟨hp.fit, hl⟩, ecI, if_pos (ck_ok.2 hp), if_pos (by omega), hk, if_pos rfl, Int.toNat_natCast]
theorem sk_cols {p : Pal} (hp : PalOk p) {S : Nat} (hS : S < 2 ^ p.1.toNat) : skI p (colsI S) = (S, 0) := by
  obtain ⟨s, h1, h2, h3⟩ := sk_filter hp S.testBit
  rw [range_filter hS (nat7 hp).2.1] at h1
  have : s = S := sub_eq (fun c hc => ((h3 c).1 hc).2) (fun c hc => (h3 c).2 ⟨lt_bit hS hc, hc⟩)
  rw [this] at h1; exact h1
/-- Closed, by what each ink makes of each colour. -/
theorem closed_iff {p : Pal} (hp : PalOk p) {s : Nat} (hs : s < 2 ^ p.1.toNat) : (p.2.1.any fun k => addI k s != s) = false ↔ ∀ c, s.testBit c = true → ∀ k ∈ p.2.1, s.testBit (k.getD c 0).toNat = true := by
  have n7 := (nat7 hp).2.1
  rw [List.any_eq_false]
  constructor
  · intro h c hc k hk
    have := h k hk
    rw [bne_iff_ne, Decidable.not_not] at this
    have hb : (addI k s).testBit (k.getD c 0).toNat = true := (add_bit hs n7).2 (.inr ⟨c, hc, rfl⟩)
    rw [this] at hb; exact hb
  · intro h k hk
    rw [bne_iff_ne, Decidable.not_not]
    refine sub_eq (fun j hj => ?_) (sub_add _ _)
    rcases (add_bit hs n7).1 hj with hj | ⟨c, hc, rfl⟩
    · exact hj
    · exact h c hc k hk

end Go.Proofs.Ytaioadjcdjmkdaa
