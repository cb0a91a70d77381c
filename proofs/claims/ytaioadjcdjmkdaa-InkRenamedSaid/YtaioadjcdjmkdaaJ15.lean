/-
  Renamed colours and inks.
-/
import Derived.Test.YtaioadjcdjmkdaaJ13
namespace Go.Proofs.Ytaioadjcdjmkdaa
open Go.RowKit
set_option linter.unusedVariables false

structure Ren (p q : Pal) (T I : Nat → Nat) : Prop where
  n : q.1 = p.1
  m : q.2.1.length = p.2.1.length
  tlt : ∀ c, c < p.1.toNat → T c < p.1.toNat
  tinj : ∀ c d, c < p.1.toNat → d < p.1.toNat → T c = T d → c = d
  tsur : ∀ d, d < p.1.toNat → ∃ c, c < p.1.toNat ∧ T c = d
  t0 : T 0 = 0
  ilt : ∀ i, i < p.2.1.length → I i < p.2.1.length
  isur : ∀ j, j < p.2.1.length → ∃ i, i < p.2.1.length ∧ I i = j
  ink : ∀ i, i < p.2.1.length → ∀ c, c < p.1.toNat → (q.2.1.getD (I i) []).getD (T c) 0 = (T ((p.2.1.getD i []).getD c 0).toNat : Int)
  ok : PalOk q
def mvI (I : Nat → Nat) (l : List Int) : List Int := l.map fun x => (I x.toNat : Int)
section
variable {p q : Pal} {T I : Nat → Nat} (h : Ren p q T I) (hp : PalOk p)
include h
theorem Ren.seq {l : List Int} (hl : SeqOk p l) : SeqOk q (mvI I l) := fun x hx => by
  simp only [mvI, List.mem_map] at hx
  obtain ⟨y, hy, rfl⟩ := hx
  have := hl y hy
  have := h.ilt y.toNat (by omega)
  have := h.m
  omega
include hp
theorem Ren.add {i s t : Nat} (hi : i < p.2.1.length) (hs : s < 2 ^ p.1.toNat) (ht : t < 2 ^ p.1.toNat) (hr : ∀ c, c < p.1.toNat → t.testBit (T c) = s.testBit c) :
    ∀ c, c < p.1.toNat → (addI (q.2.1.getD (I i) []) t).testBit (T c) = (addI (p.2.1.getD i []) s).testBit c := fun c hc => by
  have n7 := (nat7 hp).2.1
  have hk := hp.at (i := (i : Int)) (by omega)
  rw [Int.toNat_natCast] at hk
  rw [Bool.eq_iff_iff, add_bit ht n7, add_bit hs n7, hr c hc]
  refine or_congr Iff.rfl ⟨fun ⟨d, hd, e⟩ => ?_, fun ⟨d, hd, e⟩ => ?_⟩
  · obtain ⟨d', hd', rfl⟩ := h.tsur d (lt_bit ht hd)
    rw [hr d' hd'] at hd
    rw [h.ink i hi d' hd', Int.toNat_natCast] at e
    have hke := hk.at hd'
    exact ⟨d', hd, h.tinj _ _ (by omega) hc e⟩
  · have hd' := lt_bit hs hd
    refine ⟨T d, by rw [hr d hd']; exact hd, ?_⟩
    rw [h.ink i hi d hd', Int.toNat_natCast, e]
theorem Ren.fold : ∀ (l : List Int) (s t : Nat), SeqOk p l → s < 2 ^ p.1.toNat → t < 2 ^ p.1.toNat → (∀ c, c < p.1.toNat → t.testBit (T c) = s.testBit c) →
    ∀ c, c < p.1.toNat → ((mvI I l).foldl (fun s i => addI (q.2.1.getD i.toNat []) s) t).testBit (T c) = (l.foldl (fun s i => addI (p.2.1.getD i.toNat []) s) s).testBit c
  | [], s, t, _, _, _, hr => hr
  | x :: l, s, t, hl, hs, ht, hr => by
    have hx := hl x (by simp)
    have hi := h.ilt x.toNat (by omega)
    have hkq : InkOk p.1.toNat (q.2.1.getD (I x.toNat) []) := by
      have := h.ok.at (i := (I x.toNat : Int)) (by have := h.m; omega)
      rw [h.n, Int.toNat_natCast] at this; exact this
    simp only [mvI, List.map_cons, List.foldl_cons, Int.toNat_natCast]
    exact Ren.fold l _ _ (fun y hy => hl y (by simp [hy])) (addI_lt (hp.at hx) hs).1 (addI_lt hkq ht).1 (h.add hp (by omega) hs ht hr)
theorem Ren.giv {l : List Int} (hl : SeqOk p l) {c : Nat} (hc : c < p.1.toNat) : (givI q (mvI I l)).testBit (T c) = (givI p l).testBit c := by
  have n2 := (nat7 hp).1
  refine h.fold hp l 1 1 hl (Nat.one_lt_two_pow (by omega)) (Nat.one_lt_two_pow (by omega)) (fun c hc => ?_) c hc
  have one : ∀ j, (1 : Nat).testBit j = decide (j = 0) := fun j => by
    have := Nat.testBit_two_pow (n := 0) (m := j)
    rw [Nat.pow_zero] at this
    rw [this]; exact decide_eq_decide.2 ⟨fun h => h.symm, fun h => h.symm⟩
  rw [one, one]
  refine decide_eq_decide.2 ⟨fun e => h.tinj c 0 hc (by omega) (by rw [e, h.t0]), fun e => by rw [e, h.t0]⟩
theorem Ren.len {l : List Int} (hl : SeqOk p l) : (colsI (givI p l)).length = (colsI (givI q (mvI I l))).length := by
  have n7 := (nat7 hp).2.1
  have g1 := giv_lt hp hl
  have g2 := giv_lt h.ok (h.seq hl)
  rw [h.n] at g2
  have e : ∀ s, (colsI s).length = (cols s).length := fun s => by simp [colsI]
  rw [e, e]
  have nd : ∀ s, (cols s).Nodup := fun s => List.nodup_range.sublist List.filter_sublist
  have mem : ∀ d, d ∈ cols (givI q (mvI I l)) ↔ d ∈ (cols (givI p l)).map T := fun d => by
    rw [List.mem_map]
    constructor
    · intro hd
      have hb := (cols_mem.1 hd).2
      obtain ⟨c, hc, rfl⟩ := h.tsur d (lt_bit g2.2 hb)
      exact ⟨c, cols_mem.2 ⟨by omega, by rw [← h.giv hp hl hc]; exact hb⟩, rfl⟩
    · rintro ⟨c, hc, rfl⟩
      have hb := (cols_mem.1 hc).2
      have hcn := lt_bit g1.2 hb
      have := h.tlt c hcn
      exact cols_mem.2 ⟨by omega, by rw [h.giv hp hl hcn]; exact hb⟩
  have nm : ((cols (givI p l)).map T).Nodup := by
    refine List.nodup_iff_pairwise_ne.2 (List.pairwise_map.2 ?_)
    refine (List.nodup_iff_pairwise_ne.1 (nd (givI p l))).imp_of_mem fun {a b} ha hb hne e => hne ?_
    exact h.tinj a b (lt_bit g1.2 (cols_mem.1 ha).2) (lt_bit g1.2 (cols_mem.1 hb).2) e
  have l1 := (nd (givI q (mvI I l))).length_le_of_subset (fun y hy => (mem y).1 hy)
  have l2 := nm.length_le_of_subset (fun y hy => (mem y).2 hy)
  rw [List.length_map] at l1 l2; omega
omit hp in
theorem Ren.back : ∀ l' : List Int, SeqOk q l' → ∃ l, SeqOk p l ∧ mvI I l = l'
  | [], _ => ⟨[], (fun x hx => by cases hx), rfl⟩
  | y :: l', hl => by
    obtain ⟨l, h1, h2⟩ := Ren.back l' (fun x hx => hl x (by simp [hx]))
    have hy := hl y (by simp)
    rw [h.m] at hy
    obtain ⟨i, hi, e⟩ := h.isur y.toNat (by omega)
    refine ⟨(i : Int) :: l, fun x hx => ?_, ?_⟩
    · rcases List.mem_cons.1 hx with rfl | hx
      · omega
      · exact h1 x hx
    · simp only [mvI, List.map_cons, Int.toNat_natCast, e] at h2 ⊢
      rw [h2]; congr 1; omega
theorem Ren.stones {c : Nat} (hc : c < p.1.toNat) : ((ansE (fewI p (2 ^ c))).1.length, (ansE (fewI p (2 ^ c))).2) = ((ansE (fewI q (2 ^ T c))).1.length, (ansE (fewI q (2 ^ T c))).2) := by
  have there : ∀ l, SeqOk p l → (Sv p (2 ^ c) l ↔ Sv q (2 ^ T c) (mvI I l)) := fun l hl => by rw [sv_bit, sv_bit, h.giv hp hl hc]
  cases e : fewI p (2 ^ c) with
  | some l =>
    obtain ⟨l1, l2, l3⟩ := few_some hp e
    obtain ⟨l', e', s1⟩ := few_of h.ok (h.seq l1) ((there l l1).1 l2)
    rw [e']
    obtain ⟨m1, m2, _⟩ := few_some h.ok e'
    obtain ⟨l0, b1, b2⟩ := h.back l' m1
    subst b2
    have s2 := l3 l0 b1 ((there l0 b1).2 m2)
    have a1 := sle_len s1
    have a2 := sle_len s2
    simp only [mvI, List.length_map] at a1
    have : l.length = (mvI I l0).length := by simp only [mvI, List.length_map]; omega
    simp only [ansE, this]
  | none =>
    cases e' : fewI q (2 ^ T c) with
    | none => rfl
    | some l' =>
      obtain ⟨m1, m2, _⟩ := few_some h.ok e'
      obtain ⟨l0, b1, b2⟩ := h.back l' m1
      subst b2
      exact absurd ((there l0 b1).2 m2) (few_none hp e l0 b1)
end
/-! ### turns -/
theorem turn_eq {m : Nat} (hm : 0 < m) (t : Nat) {i : Nat} (hi : i < m) : (i + t) % m = if i + t % m < m then i + t % m else i + t % m - m := by
  have hr : t % m < m := Nat.mod_lt _ hm
  rw [Nat.add_mod, Nat.mod_eq_of_lt hi]
  split
  · rename_i h; exact Nat.mod_eq_of_lt h
  · rename_i h
    rw [Nat.mod_eq_sub_mod (by omega), Nat.mod_eq_of_lt (by omega)]

end Go.Proofs.Ytaioadjcdjmkdaa
