/-
  What the laws without the reference need.
-/
import Derived.Test.YtaioadjcdjmkdaaJ11
import Derived.Test.YtaioadjcdjmkdaaJ12
namespace Go.Proofs.Ytaioadjcdjmkdaa
open Go.RowKit
set_option linter.unusedVariables false

/-! ### sets in sets -/
def Sub (s t : Nat) : Prop := ∀ c, s.testBit c = true → t.testBit c = true
theorem Sub.refl (s : Nat) : Sub s s := fun _ h => h
theorem Sub.trans {a b c : Nat} (h1 : Sub a b) (h2 : Sub b c) : Sub a c := fun i h => h2 i (h1 i h)
theorem sub_add (l : List Int) (s : Nat) : Sub s (addI l s) := fun _ h => bit_fold _ _ h
theorem add_mono {n : Nat} {l : List Int} {s t : Nat} (hs : s < 2 ^ n) (ht : t < 2 ^ n) (hn : n ≤ 7) (h : Sub s t) : Sub (addI l s) (addI l t) := fun c hc => by
  rw [add_bit hs hn] at hc
  rw [add_bit ht hn]
  rcases hc with hc | ⟨j, hj, e⟩
  · exact .inl (h c hc)
  · exact .inr ⟨j, h j hj, e⟩
theorem fold_mono {p : Pal} (hp : PalOk p) : ∀ (l : List Int) (s t : Nat), SeqOk p l → s < 2 ^ p.1.toNat → t < 2 ^ p.1.toNat → Sub s t → Sub (l.foldl (fun s i => addI (p.2.1.getD i.toNat []) s) s) (l.foldl (fun s i => addI (p.2.1.getD i.toNat []) s) t)
  | [], s, t, _, _, _, h => h
  | x :: l, s, t, hl, hs, ht, h => by
    have hk := hp.at (hl x (by simp))
    exact fold_mono hp l _ _ (fun y hy => hl y (by simp [hy])) (addI_lt hk hs).1 (addI_lt hk ht).1 (add_mono hs ht (nat7 hp).2.1 h)
theorem giv_more {p : Pal} (hp : PalOk p) {a b : List Int} {w : Int} (ha : SeqOk p a) (hb : SeqOk p b) (hw : 0 ≤ w ∧ w < (p.2.1.length : Int)) : Sub (givI p (a ++ b)) (givI p ((a ++ [w]) ++ b)) := by
  have g := giv_lt hp ha
  have e1 : givI p (a ++ b) = b.foldl (fun s i => addI (p.2.1.getD i.toNat []) s) (givI p a) := by simp [givI]
  have e2 : givI p ((a ++ [w]) ++ b) = b.foldl (fun s i => addI (p.2.1.getD i.toNat []) s) (addI (p.2.1.getD w.toNat []) (givI p a)) := by simp [givI]
  rw [e1, e2]
  exact fold_mono hp b _ _ hb g.2 (addI_lt (hp.at hw) g.2).1 (sub_add _ _)
/-- More inks. -/
abbrev addP (p : Pal) (ks : List (List Int)) : Pal := (p.1, p.2.1 ++ ks, ())
theorem giv_addP {p : Pal} (ks : List (List Int)) : ∀ (l : List Int) (s : Nat), SeqOk p l → l.foldl (fun s i => addI ((addP p ks).2.1.getD i.toNat []) s) s = l.foldl (fun s i => addI (p.2.1.getD i.toNat []) s) s
  | [], s, _ => rfl
  | x :: l, s, h => by
    have hx := h x (by simp)
    rw [List.foldl_cons, List.foldl_cons, show (addP p ks).2.1.getD x.toNat [] = p.2.1.getD x.toNat [] from getD_app (by omega)]
    exact giv_addP ks l _ fun y hy => h y (by simp [hy])
theorem seq_addP {p : Pal} {ks : List (List Int)} {l : List Int} (h : SeqOk p l) : SeqOk (addP p ks) l := fun x hx => by
  have := h x hx
  show 0 ≤ x ∧ x < ((p.2.1 ++ ks).length : Int)
  rw [List.length_append]; omega
theorem addP_ok {p : Pal} (hp : PalOk p) {ks : List (List Int)} (h : ∀ k ∈ ks, InkOk p.1.toNat k) (hl : p.2.1.length + ks.length ≤ 6) : PalOk (addP p ks) :=
  ⟨hp.n2, hp.n7, by show 1 ≤ (p.2.1 ++ ks).length; rw [List.length_append]; have := hp.i1; omega, by show (p.2.1 ++ ks).length ≤ 6; rw [List.length_append]; exact hl, fun l hl => by
    rcases List.mem_append.1 hl with hl | hl
    · exact hp.ink l hl
    · exact h l hl⟩
theorem rdf_mono {n : Nat} (hn : n ≤ 7) : ∀ (ks : List (List Int)) (s t : Nat), (∀ k ∈ ks, InkOk n k) → s < 2 ^ n → t < 2 ^ n → Sub s t → Sub (ks.foldl (fun s k => addI k s) s) (ks.foldl (fun s k => addI k s) t)
  | [], s, t, _, _, _, h => h
  | k :: ks, s, t, hk, hs, ht, h => rdf_mono hn ks _ _ (fun x hx => hk x (by simp [hx])) (addI_lt (hk k (by simp)) hs).1 (addI_lt (hk k (by simp)) ht).1 (add_mono hs ht hn h)
theorem it_addP {p : Pal} (hp : PalOk p) {ks : List (List Int)} (hq : PalOk (addP p ks)) : ∀ k, Sub (itI p k) (itI (addP p ks) k)
  | 0 => Sub.refl _
  | k + 1 => by
    have h1 := it_lt hp k
    have h2 := it_lt hq k
    have e : rdI (addP p ks) (itI (addP p ks) k) = ks.foldl (fun s k => addI k s) (p.2.1.foldl (fun s k => addI k s) (itI (addP p ks) k)) := by
      show (p.2.1 ++ ks).foldl _ _ = _
      rw [List.foldl_append]
    show Sub (rdI p (itI p k)) (rdI (addP p ks) (itI (addP p ks) k))
    rw [e]
    exact (rdf_mono (nat7 hp).2.1 p.2.1 _ _ hp.ink h1.2 h2.2 (it_addP hp hq k)).trans fun c hc => bit_rd _ _ hc

/-! ### lists in lists -/
def B49 (a b : List Int) : Option Bool := if a.length ≤ 1000 ∧ b.length ≤ 1000 then some (a.all fun x => b.contains x) else none
theorem KB49 : FnOk Try.prog 49 (F49 B49) := ok49 B49 fun a b r h => ⟨1001, by
  simp only [B49] at h
  split at h
  · rename_i hl
    rw [← h, m49]
    exact rangeInd a 0 (fun n (_ : Unit) t => l49a 1001 a b n t) (fun xs _ => some (xs.all fun x => b.contains x)) (fun n _ t x rest ht hx ih => by
      have inner : ∀ (rec : Int → Option Bool), l49b 1001 a b (t : Int) rec 1001 false 0 = cond (b.contains x) (rec ((t + 1 : Nat) : Int)) (some false) := fun rec => by
        have := rangeInd b 0 (fun m (f : Bool) u => l49b 1001 a b (t : Int) rec m f u) (fun ys f => cond (f || ys.contains x) (rec ((t + 1 : Nat) : Int)) (some false)) (fun m f u y ys hu hy ih2 => by
          simp only [l49b, ixA hu, ixB hu, cond_true, chk_true, Int.toNat_natCast, hx, hy, ixW hu (by omega), ih2, List.contains_cons]
          cases f with
          | true => rw [cond_true]; rfl
          | false => rw [cond_false, Bool.false_or]) (fun m f => by
          simp only [l49b, ixE, cond_false, ixW ht (by omega)]
          cases f <;> rfl) 1001 false (by omega)
        simpa using this
      simp only [l49a, ixA ht, ixB ht, cond_true, chk_true]
      rw [inner, ih ()]
      rw [List.all_cons]
      cases b.contains x <;> rfl) (fun n _ => by simp only [l49a, ixE, cond_false]; rfl) 1001 () (by omega)
  · cases h⟩
theorem colsI_mem {s c : Nat} : (c : Int) ∈ colsI s ↔ c < 7 ∧ s.testBit c = true := by
  rw [← cols_mem]
  simp only [colsI, List.mem_map]
  exact ⟨fun ⟨a, h1, h2⟩ => by rwa [show c = a by omega], fun h => ⟨c, h, rfl⟩⟩
theorem colsI_nat {s : Nat} {x : Int} (h : x ∈ colsI s) : ∃ c : Nat, x = c ∧ c < 7 ∧ s.testBit c = true := by
  simp only [colsI, List.mem_map] at h
  obtain ⟨c, hc, rfl⟩ := h
  exact ⟨c, rfl, cols_mem.1 hc⟩
theorem within_ok {s t : Nat} (h : Sub s t) : B49 (colsI s) (colsI t) = some true := by
  have h1 := colsI_len s
  have h2 := colsI_len t
  rw [B49, if_pos ⟨by omega, by omega⟩]
  congr 1
  rw [List.all_eq_true]
  intro x hx
  obtain ⟨c, rfl, hc, hb⟩ := colsI_nat hx
  exact List.contains_iff_mem.2 (colsI_mem.2 ⟨hc, h c hb⟩)
theorem colsI_nodup (s : Nat) : (colsI s).Nodup := by
  have : (cols s).Nodup := List.nodup_range.sublist List.filter_sublist
  exact List.nodup_iff_pairwise_ne.2 (List.pairwise_map.2 ((List.nodup_iff_pairwise_ne.1 this).imp fun h e => h (by omega)))

/-! ### maps -/
abbrev put (m : List (Int × Bool)) (x : Int) : List (Int × Bool) := mput (kt := .int .i64) (vt := .bool) m x true
abbrev get (m : List (Int × Bool)) (x : Int) : Option Bool := mget (kt := .int .i64) (vt := .bool) m x
theorem get_of : ∀ {m : List (Int × Bool)} {x : Int}, (∀ p ∈ m, p.2 = true) → (get m x).getD false = decide (x ∈ m.map (·.1))
  | [], x, _ => rfl
  | p :: m, x, h => by
    have ih := get_of (m := m) (x := x) fun q hq => h q (List.mem_cons_of_mem _ hq)
    show (cond (decide (x = p.1)) (some p.2) (get m x)).getD false = _
    by_cases c : x = p.1
    · rw [decide_eq_true c, cond_true, h p (List.mem_cons_self ..)]; simp [c]
    · rw [decide_eq_false c, cond_false, ih, List.map_cons]
      exact decide_eq_decide.2 ⟨fun h => List.mem_cons_of_mem _ h, fun h => (List.mem_cons.1 h).resolve_left c⟩
theorem put_of : ∀ {m : List (Int × Bool)} {x : Int}, (∀ p ∈ m, p.2 = true) → (m.map (·.1)).Nodup →
    (∀ p ∈ put m x, p.2 = true) ∧ ((put m x).map (·.1)).Nodup ∧ ∀ y, y ∈ (put m x).map (·.1) ↔ y ∈ m.map (·.1) ∨ y = x
  | [], x, _, _ => by
    show (∀ p ∈ [(x, true)], p.2 = true) ∧ (([(x, true)] : List (Int × Bool)).map (·.1)).Nodup ∧ ∀ y, y ∈ ([(x, true)] : List (Int × Bool)).map (·.1) ↔ y ∈ ([] : List (Int × Bool)).map (·.1) ∨ y = x
    simp
  | p :: m, x, h, hn => by
    rw [List.map_cons, List.nodup_cons] at hn
    obtain ⟨a, b, c⟩ := put_of (m := m) (x := x) (fun q hq => h q (List.mem_cons_of_mem _ hq)) hn.2
    have e : put (p :: m) x = cond (decide (x = p.1)) ((x, true) :: m) (p :: put m x) := rfl
    rw [e]
    by_cases d : x = p.1
    · rw [decide_eq_true d, cond_true]
      refine ⟨fun q hq => ?_, ?_, fun y => ?_⟩
      · rcases List.mem_cons.1 hq with rfl | hq
        · rfl
        · exact h q (List.mem_cons_of_mem _ hq)
      · rw [List.map_cons, List.nodup_cons]; exact ⟨by rw [d]; exact hn.1, hn.2⟩
      · rw [List.map_cons, List.map_cons, List.mem_cons, List.mem_cons]
        constructor
        · rintro (h | h)
          · exact .inr h
          · exact .inl (.inr h)
        · rintro ((h | h) | h)
          · exact .inl (h.trans d.symm)
          · exact .inr h
          · exact .inl h
    · rw [decide_eq_false d, cond_false]
      refine ⟨fun q hq => ?_, ?_, fun y => ?_⟩
      · rcases List.mem_cons.1 hq with rfl | hq
        · exact h q (List.mem_cons_self ..)
        · exact a q hq
      · rw [List.map_cons, List.nodup_cons]
        exact ⟨fun hm => ((c _).1 hm).elim hn.1 fun e => d e.symm, b⟩
      · rw [List.map_cons, List.map_cons, List.mem_cons, List.mem_cons, c]
        constructor
        · rintro (h | h | h)
          · exact .inl (.inl h)
          · exact .inl (.inr h)
          · exact .inr h
        · rintro ((h | h) | h)
          · exact .inl h
          · exact .inr (.inl h)
          · exact .inr (.inr h)

/-! ### stones for a colour -/
theorem sv_bit {p : Pal} {c : Nat} {l : List Int} : Sv p (2 ^ c) l ↔ (givI p l).testBit c = true := by
  unfold Sv
  constructor
  · intro h
    have := congrArg (fun x => x.testBit c) h
    simp only [Nat.testBit_and, Nat.testBit_two_pow_self, Bool.and_true] at this
    exact this
  · intro h
    refine Nat.eq_of_testBit_eq fun i => ?_
    rw [Nat.testBit_and, Nat.testBit_two_pow]
    by_cases e : c = i
    · subst e; rw [h]; simp
    · simp [e]
theorem B35_ok {p : Pal} (hp : PalOk p) {c : Nat} (hc : c < p.1.toNat) : B35 p (c : Int) = some (((ansE (fewI p (2 ^ c))).1.length : Int), (ansE (fewI p (2 ^ c))).2) := by
  have := (nat7 hp).2.2
  rw [B35, if_pos hp.fit, stI, if_pos (ck_ok.2 hp), if_pos (by omega), Int.toNat_natCast]
theorem B17_ok {p : Pal} (hp : PalOk p) {l : List Int} (hl : SeqOk p l) (h : l.length ≤ 12) : B17 p l = some (colsI (givI p l), 0) := by
  rw [B17, if_pos ⟨hp.fit, by omega⟩, gvI, if_pos (sq_ok.2 ⟨hp, by omega, hl⟩)]
theorem B29_ok {p : Pal} (hp : PalOk p) : B29 p = some (colsI (itI p p.1.toNat), 0) := by
  rw [B29, if_pos hp.fit, evI, if_pos (ck_ok.2 hp)]
def okB (by_ : List Int) : Bool := by_.all fun b => decide (0 ≤ b ∧ b < 256)

end Go.Proofs.Ytaioadjcdjmkdaa
