/-
  Renamed marks, places in another order, customers turned: who can make what stays.
-/
import Derived.Test.YtbjfbbfglkmadaaDoorX5
import Derived.Test.YtbjfbbfglkmadaaDoorX9
namespace Go.Proofs.YtbjfbbfglkmadaaDoor
open Go.RowKit
set_option linter.unusedVariables false

theorem gmr {α : Type} {f : Nat → α} {p k : Nat} {d : α} (h : k < p) : ((List.range' 0 p).map f).getD k d = f k := by
  rw [List.getD_eq_getElem?_getD, List.getElem?_map, List.getElem?_range' h]; simp
theorem ext0 {a b : List Int} {n : Nat} (ha : a.length = n) (hb : b.length = n) (h : ∀ k, k < n → a.getD k 0 = b.getD k 0) : a = b := by
  refine List.ext_getElem? fun k => ?_
  by_cases hk : k < n
  · have := h k hk
    rw [List.getD_eq_getElem?_getD, List.getD_eq_getElem?_getD, List.getElem?_eq_getElem (by omega), List.getElem?_eq_getElem (by omega)] at this
    rw [List.getElem?_eq_getElem (by omega), List.getElem?_eq_getElem (by omega)]
    exact congrArg some this
  · rw [List.getElem?_eq_none (by omega), List.getElem?_eq_none (by omega)]
theorem bijperm {n : Nat} {f g : Nat → Nat} (hf : ∀ i, i < n → f i < n ∧ g (f i) = i) (hg : ∀ j, j < n → g j < n ∧ f (g j) = j) : ((List.range' 0 n).map f).Perm (List.range' 0 n) := by
  refine (List.perm_ext_iff_of_nodup ?_ List.nodup_range').2 fun i => ?_
  · refine List.pairwise_map.2 (List.Pairwise.imp_of_mem (fun {a b} ha hb hab => ?_) (List.nodup_range' (s := 0) (n := n)))
    rw [List.mem_range'_1] at ha hb
    intro e
    have h1 := (hf a (by omega)).2
    have h2 := (hf b (by omega)).2
    rw [e, h2] at h1
    exact hab h1.symm
  · rw [List.mem_map]
    constructor
    · rintro ⟨j, hj, rfl⟩
      rw [List.mem_range'_1] at hj ⊢
      have := (hf j (by omega)).1
      omega
    · intro hi
      rw [List.mem_range'_1] at hi
      have := hg i (by omega)
      exact ⟨g i, by rw [List.mem_range'_1]; omega, this.2⟩
theorem count_bij {n : Nat} {f g : Nat → Nat} (hf : ∀ i, i < n → f i < n ∧ g (f i) = i) (hg : ∀ j, j < n → g j < n ∧ f (g j) = j) (P : Nat → Bool) : (List.range' 0 n).countP (fun i => P (f i)) = (List.range' 0 n).countP P := by
  rw [← (bijperm hf hg).countP_eq P, List.countP_map]; rfl
theorem countP_same {α : Type} {P Q : α → Bool} {l : List α} (h : ∀ i ∈ l, P i = Q i) : l.countP P = l.countP Q := by
  rw [List.countP_eq_length_filter, List.countP_eq_length_filter, List.filter_congr h]
def mvw (p : Nat) (M : Int) (q : Nat → Nat) (e : Nat → Int) (w : List Int) : List Int := (List.range' 0 p).map fun j => (w.getD (q j) 0 + e j) % M
structure Ren (c o : Cd) (σ σ' π π' : Nat → Nat) (e : Nat → Int) : Prop where
  hc : cdE c = 0
  ho : cdE o = 0
  hM : o.1 = c.1
  hN : o.2.1.length = c.2.1.length
  hz : sz o = sz c
  hs : ∀ i, i < c.2.1.length → σ i < c.2.1.length ∧ σ' (σ i) = i
  hs' : ∀ i, i < c.2.1.length → σ' i < c.2.1.length ∧ σ (σ' i) = i
  hp : ∀ i, i < sz c → π i < sz c ∧ π' (π i) = i
  hp' : ∀ i, i < sz c → π' i < sz c ∧ π (π' i) = i
  hV : ∀ j, j < c.2.1.length → wd o j = mvw (sz c) c.1 π' e (wd c (σ' j))
def Vw (c : Cd) (w : List Int) : Prop := w.length = sz c ∧ ∀ m ∈ w, 0 ≤ m ∧ m < c.1
theorem Vw.at {c : Cd} {w : List Int} (h : Vw c w) {k : Nat} (hk : k < sz c) : 0 ≤ w.getD k 0 ∧ w.getD k 0 < c.1 := h.2 _ (getD_mem (by rw [h.1]; exact hk))
theorem Vw_word {c : Cd} (hc : cdE c = 0) {i : Nat} (hi : i < c.2.1.length) : Vw c (wd c i) := by
  obtain ⟨_, _, _, hlen, hb⟩ := cdE_ok hc
  exact ⟨hlen _ (getD_mem hi), fun m hm => hb _ (getD_mem hi) m hm⟩
theorem mvw_get {p : Nat} {M : Int} {q : Nat → Nat} {e : Nat → Int} {w : List Int} {j : Nat} (h : j < p) : (mvw p M q e w).getD j 0 = (w.getD (q j) 0 + e j) % M := gmr h
theorem mvw_len {p : Nat} {M : Int} {q : Nat → Nat} {e : Nat → Int} {w : List Int} : (mvw p M q e w).length = p := by simp [mvw]
theorem emod_inj {a b d M : Int} (ha : 0 ≤ a ∧ a < M) (hb : 0 ≤ b ∧ b < M) : (a + d) % M = (b + d) % M ↔ a = b := by
  rw [Int.emod_add_cancel_right, Int.emod_eq_of_lt ha.1 ha.2, Int.emod_eq_of_lt hb.1 hb.2]
theorem Ren.valid {c o : Cd} {σ σ' π π' : Nat → Nat} {e : Nat → Int} (R : Ren c o σ σ' π π' e) {w : List Int} (hw : Vw c w) : Vw o (mvw (sz c) c.1 π' e w) := by
  have hm := (cdE_ok R.hc).1
  refine ⟨by rw [mvw_len, R.hz], fun m hmm => ?_⟩
  obtain ⟨j, hj, rfl⟩ := List.mem_map.1 hmm
  rw [R.hM]
  exact ⟨Int.emod_nonneg _ (by omega), Int.emod_lt_of_pos _ (by omega)⟩
theorem back {a d M : Int} (ha : 0 ≤ a ∧ a < M) : ((a + d) % M + -d) % M = a := by
  rw [Int.emod_add_emod, show a + d + -d = a by omega, Int.emod_eq_of_lt ha.1 ha.2]
theorem Ren.symm {c o : Cd} {σ σ' π π' : Nat → Nat} {e : Nat → Int} (R : Ren c o σ σ' π π' e) : Ren o c σ' σ π' π (fun j => - e (π j)) where
  hc := R.ho
  ho := R.hc
  hM := R.hM.symm
  hN := R.hN.symm
  hz := R.hz.symm
  hs := by rw [R.hN]; exact R.hs'
  hs' := by rw [R.hN]; exact R.hs
  hp := by rw [R.hz]; exact R.hp'
  hp' := by rw [R.hz]; exact R.hp
  hV := fun i hi => by
    rw [R.hN] at hi
    rw [R.hz, R.hM]
    have h1 := R.hs i hi
    have hw := Vw_word R.hc hi
    refine ext0 hw.1 mvw_len fun k hk => ?_
    have h2 := R.hp k hk
    rw [mvw_get hk, R.hV _ h1.1, mvw_get h2.1, h1.2, h2.2, back (hw.at hk)]
theorem Ren.agree {c o : Cd} {σ σ' π π' : Nat → Nat} {e : Nat → Int} (R : Ren c o σ σ' π π' e) {u v : List Int} (hu : Vw c u) (hv : Vw c v) {j : Nat} (hj : j < sz c) :
    (mvw (sz c) c.1 π' e u).getD j 0 = (mvw (sz c) c.1 π' e v).getD j 0 ↔ u.getD (π' j) 0 = v.getD (π' j) 0 := by
  have := R.hp' j hj
  rw [mvw_get hj, mvw_get hj, emod_inj (hu.at this.1) (hv.at this.1)]
theorem mk_iff {c : Cd} {l w : List Int} : mk c l w = true ↔ ∀ k, k < w.length → ∃ i ∈ l, (wd c i.toNat).getD k 0 = w.getD k 0 := by
  rw [mk, List.all_eq_true]
  constructor
  · intro h k hk
    obtain ⟨i, hi, he⟩ := List.any_eq_true.1 (h k (List.mem_range.2 hk))
    exact ⟨i, hi, of_decide_eq_true he⟩
  · intro h k hk
    obtain ⟨i, hi, he⟩ := h k (List.mem_range.1 hk)
    exact List.any_eq_true.2 ⟨i, hi, decide_eq_true he⟩
def Img (N : Nat) (σ' : Nat → Nat) (l l' : List Int) : Prop := (∀ i ∈ l, 0 ≤ i ∧ i < (N : Int)) ∧ (∀ i ∈ l', 0 ≤ i ∧ i < (N : Int)) ∧ ∀ j : Nat, j < N → ((j : Int) ∈ l' ↔ ((σ' j : Nat) : Int) ∈ l)
theorem Ren.mks {c o : Cd} {σ σ' π π' : Nat → Nat} {e : Nat → Int} (R : Ren c o σ σ' π π' e) {w l l' : List Int} (hw : Vw c w) (hl : Img c.2.1.length σ' l l') :
    Go.Proofs.YtbjfbbfglkmadaaDoor.mk o l' (mvw (sz c) c.1 π' e w) = Go.Proofs.YtbjfbbfglkmadaaDoor.mk c l w := by
  obtain ⟨l1, l2, l3⟩ := hl
  rw [Bool.eq_iff_iff, mk_iff, mk_iff, mvw_len, hw.1]
  constructor
  · intro h k hk
    have hk2 := R.hp k hk
    obtain ⟨j', hj', he⟩ := h (π k) hk2.1
    have hr := l2 j' hj'
    obtain ⟨j, rfl⟩ : ∃ j : Nat, j' = j := ⟨j'.toNat, by omega⟩
    have hj : j < c.2.1.length := by omega
    rw [Int.toNat_natCast, R.hV j hj, R.agree (Vw_word R.hc (R.hs' j hj).1) hw hk2.1, hk2.2] at he
    exact ⟨_, (l3 j hj).1 hj', he⟩
  · intro h j hj
    have hj2 := R.hp' j hj
    obtain ⟨i', hi', he⟩ := h (π' j) hj2.1
    have hr := l1 i' hi'
    obtain ⟨i, rfl⟩ : ∃ i : Nat, i' = i := ⟨i'.toNat, by omega⟩
    have hi : i < c.2.1.length := by omega
    have hs := R.hs i hi
    refine ⟨((σ i : Nat) : Int), (l3 _ hs.1).2 (by rw [hs.2]; exact hi'), ?_⟩
    rw [Int.toNat_natCast, R.hV _ hs.1, R.agree (Vw_word R.hc (R.hs' _ hs.1).1) hw hj, hs.2]
    exact he
theorem rise_count {N : Nat} {x : List Int} (h : x.Pairwise (· < ·)) (hr : ∀ i ∈ x, 0 ≤ i ∧ i < (N : Int)) : x.length = (List.range' 0 N).countP fun (i : Nat) => decide ((i : Int) ∈ x) := by
  have e : x = ((List.range' 0 N).filter fun (i : Nat) => decide ((i : Int) ∈ x)).map fun (i : Nat) => (i : Int) := by
    refine rise_ext h (List.pairwise_map.2 (List.Pairwise.filter _ ((List.pairwise_lt_range' (s := 0) (n := N)).imp fun h => by omega))) fun i => ?_
    simp only [List.mem_map, List.mem_filter, List.mem_range'_1, decide_eq_true_eq]
    constructor
    · intro hi
      have := hr i hi
      exact ⟨i.toNat, ⟨by omega, by rw [show ((i.toNat : Nat) : Int) = i by omega]; exact hi⟩, by omega⟩
    · rintro ⟨j, ⟨_, hj⟩, rfl⟩; exact hj
  have := congrArg List.length e
  rw [List.length_map, ← List.countP_eq_length_filter] at this
  exact this
theorem Ren.co {c o : Cd} {σ σ' π π' : Nat → Nat} {e : Nat → Int} (R : Ren c o σ σ' π π' e) {x : List Int} {z : Nat} (hx : isCo c.2.1.length z x) : ∃ x', isCo o.2.1.length z x' ∧ Img c.2.1.length σ' x x' := by
  refine ⟨((List.range' 0 c.2.1.length).filter fun j => decide (((σ' j : Nat) : Int) ∈ x)).map fun (j : Nat) => (j : Int), ?_, ?_⟩
  · have hl : (((List.range' 0 c.2.1.length).filter fun j => decide (((σ' j : Nat) : Int) ∈ x)).map fun (j : Nat) => (j : Int)).length = x.length := by
      rw [List.length_map, ← List.countP_eq_length_filter, rise_count hx.2.2.1 hx.2.2.2]
      exact count_bij (f := σ') (g := σ) R.hs' R.hs fun i => decide ((i : Int) ∈ x)
    have h0 := isCo_ne hx
    refine ⟨fun q => by rw [q] at hl; simp only [List.length_nil] at hl; omega, by have := hx.2.1; omega, List.pairwise_map.2 (List.Pairwise.filter _ ((List.pairwise_lt_range' (s := 0) (n := c.2.1.length)).imp fun h => by omega)), fun i hi => ?_⟩
    obtain ⟨j, hj, rfl⟩ := List.mem_map.1 hi
    have := (List.mem_filter.1 hj).1
    rw [List.mem_range'_1] at this
    rw [R.hN]; omega
  · refine ⟨hx.2.2.2, fun i hi => ?_, fun j hj => ?_⟩
    · obtain ⟨j, hj, rfl⟩ := List.mem_map.1 hi
      have := (List.mem_filter.1 hj).1
      rw [List.mem_range'_1] at this
      omega
    · simp only [List.mem_map, List.mem_filter, List.mem_range'_1, decide_eq_true_eq]
      constructor
      · rintro ⟨i, ⟨_, hi⟩, he⟩
        rw [show j = i by omega]; exact hi
      · intro h; exact ⟨j, ⟨by omega, h⟩, rfl⟩
theorem Ren.oc {c o : Cd} {σ σ' π π' : Nat → Nat} {e : Nat → Int} (R : Ren c o σ σ' π π' e) {x' : List Int} {z : Nat} (hx : isCo o.2.1.length z x') : ∃ x, isCo c.2.1.length z x ∧ Img c.2.1.length σ' x x' := by
  obtain ⟨x, h1, h2, h3, h4⟩ := R.symm.co hx
  rw [R.hN] at h2 h3 h4
  refine ⟨x, h1, h3, h2, fun j hj => ?_⟩
  have := R.hs' j hj
  rw [h4 _ this.1, this.2]
theorem Ren.guilty {c o : Cd} {σ σ' π π' : Nat → Nat} {e : Nat → Int} (R : Ren c o σ σ' π π' e) {w : List Int} (hw : Vw c w) {j : Nat} (hj : j < c.2.1.length) :
    ((j : Int) ∈ gl o (mvw (sz c) c.1 π' e w) 2 ↔ ((σ' j : Nat) : Int) ∈ gl c w 2) := by
  have hz := (cdE_ok R.hc).2.2.1
  have hs := R.hs' j hj
  rw [gl_mem (by rw [mvw_len]; omega), gl_mem (by rw [hw.1]; omega), R.hN]
  constructor
  · rintro ⟨h1, h2⟩
    refine ⟨by omega, fun x hx hmx => ?_⟩
    obtain ⟨x', hx', hi⟩ := R.co hx
    rw [R.hN] at hx'
    exact (hi.2.2 j hj).1 (h2 x' hx' (by rw [R.mks hw hi]; exact hmx))
  · rintro ⟨h1, h2⟩
    refine ⟨by omega, fun x' hx' hmx => ?_⟩
    obtain ⟨x, hx, hi⟩ := R.oc (by rw [R.hN]; exact hx')
    exact (hi.2.2 j hj).2 (h2 x hx (by rw [← R.mks hw hi]; exact hmx))
theorem gl_in {c : Cd} {w : List Int} : ∀ i ∈ gl c w 2, 0 ≤ i ∧ i < (c.2.1.length : Int) := fun i hi => (glF_mem.1 hi).1
theorem Ren.guilty_len {c o : Cd} {σ σ' π π' : Nat → Nat} {e : Nat → Int} (R : Ren c o σ σ' π π' e) {w : List Int} (hw : Vw c w) : (gl o (mvw (sz c) c.1 π' e w) 2).length = (gl c w 2).length := by
  rw [rise_count (gl_rise o _ 2) gl_in, rise_count (gl_rise c w 2) gl_in, R.hN]
  rw [← count_bij (f := σ') (g := σ) R.hs' R.hs fun i => decide ((i : Int) ∈ gl c w 2)]
  exact countP_same fun j hj => decide_eq_decide.2 (R.guilty hw (by rw [List.mem_range'_1] at hj; omega))
theorem Ren.found {c o : Cd} {σ σ' π π' : Nat → Nat} {e : Nat → Int} (R : Ren c o σ σ' π π' e) {w : List Int} (hw : Vw c w) : (guA o (mvw (sz c) c.1 π' e w) 2).2 = (guA c w 2).2 := by
  rw [Bool.eq_iff_iff, guA_found (by decide), guA_found (by decide)]
  constructor
  · rintro ⟨x', hx', hm⟩
    obtain ⟨x, hx, hi⟩ := R.oc hx'
    exact ⟨x, hx, by rw [← R.mks hw hi]; exact hm⟩
  · rintro ⟨x, hx, hm⟩
    obtain ⟨x', hx', hi⟩ := R.co hx
    exact ⟨x', hx', by rw [R.mks hw hi]; exact hm⟩
theorem Ren.cvW {c o : Cd} {σ σ' π π' : Nat → Nat} {e : Nat → Int} (R : Ren c o σ σ' π π' e) {w : List Int} (hw : Vw c w) : Go.Proofs.YtbjfbbfglkmadaaDoor.cvW o (mvw (sz c) c.1 π' e w) = Go.Proofs.YtbjfbbfglkmadaaDoor.cvW c w := by
  have hz := (cdE_ok R.hc).2.2.1
  have hl := R.guilty_len hw
  unfold Go.Proofs.YtbjfbbfglkmadaaDoor.cvW
  rw [R.found hw]
  congr 1
  refine decide_eq_decide.2 ?_
  rw [gu_some (by rw [mvw_len]; omega), gu_some (by rw [hw.1]; omega)]
  constructor
  · rintro ⟨i, hi⟩
    have := List.length_pos_of_mem hi
    exact ⟨_, getD_mem (d := 0) (show 0 < (gl c w 2).length by omega)⟩
  · rintro ⟨i, hi⟩
    have := List.length_pos_of_mem hi
    exact ⟨_, getD_mem (d := 0) (show 0 < (gl o (mvw (sz c) c.1 π' e w) 2).length by omega)⟩
theorem Ren.cvA1 {c o : Cd} {σ σ' π π' : Nat → Nat} {e : Nat → Int} (R : Ren c o σ σ' π π' e) (h : Go.Proofs.YtbjfbbfglkmadaaDoor.cvA o = true) : Go.Proofs.YtbjfbbfglkmadaaDoor.cvA c = true := by
  have hm := (cdE_ok R.hc).1
  unfold Go.Proofs.YtbjfbbfglkmadaaDoor.cvA at h ⊢
  rw [List.all_eq_true] at h ⊢
  intro w hw
  obtain ⟨h1, h2⟩ := wds_mem.1 hw
  have hv : Vw c w := ⟨h1, fun m hm => by have := h2 m hm; omega⟩
  have hv' := R.valid hv
  rw [← R.cvW hv]
  refine h _ (wds_mem.2 ⟨hv'.1, fun m hm => ?_⟩)
  have := hv'.2 m hm
  have := R.hM
  omega
theorem Ren.cvA {c o : Cd} {σ σ' π π' : Nat → Nat} {e : Nat → Int} (R : Ren c o σ σ' π π' e) : Go.Proofs.YtbjfbbfglkmadaaDoor.cvA o = Go.Proofs.YtbjfbbfglkmadaaDoor.cvA c := by
  rw [Bool.eq_iff_iff]
  exact ⟨R.cvA1, R.symm.cvA1⟩
theorem dbV_snd {c : Cd} (hc : cdE c = 0) : (dbV c).2 = cond (cvA c) 14 0 := by
  rcases dbV_word hc with ⟨h1, h2⟩ | ⟨h1, ls, wd, h2, _⟩
  · rw [h1, h2]; rfl
  · rw [h1, h2]; rfl
theorem fi_some {c : Cd} {x : List Int} : ∀ {l : List (List Int)} {k : Nat} (j : Nat), j < l.length → ((k + j : Nat) : Int) ∉ x → mk c x (l.getD j []) = true → (fi c x k l).isSome = true
  | [], k, j, h, _, _ => by simp at h
  | w :: r, k, j, h, h1, h2 => by
    rw [fi]
    cases e : !decide ((k : Int) ∈ x) && mk c x w with
    | true => rfl
    | false =>
      rw [cond_false]
      cases j with
      | zero =>
        rw [Nat.add_zero] at h1
        rw [decide_eq_false h1, show mk c x w = true from h2] at e; cases e
      | succ j => exact fi_some j (by simpa using h) (by rw [show k + 1 + j = k + (j + 1) by omega]; exact h1) h2
def frm (c : Cd) : Prop := ∃ x, isCo c.2.1.length 2 x ∧ ∃ j : Nat, j < c.2.1.length ∧ (j : Int) ∉ x ∧ mk c x (wd c j) = true
theorem frR_err (c : Cd) : ((frR (frA c 2)).2.2 = 0 ∧ frm c) ∨ ((frR (frA c 2)).2.2 = 5 ∧ ¬ frm c) := by
  rcases frA_best (c := c) (z := 2) with ⟨h1, h2, h3⟩ | ⟨y, h1, h2, h3, h4⟩
  · refine .inr ⟨by rw [frR, h1], ?_⟩
    rintro ⟨x, hx, j, hj, hjx, hm⟩
    have h5 := fi_some (c := c) (x := x) (l := c.2.1) (k := 0) j hj (by rw [Nat.zero_add]; exact hjx) hm
    rw [h3 x hx] at h5; cases h5
  · refine .inl ⟨by rw [frR, h1], y, h2, ?_⟩
    obtain ⟨j, e1, e2, e3, e4⟩ := fi_at h3
    rw [Nat.zero_add] at e1
    exact ⟨j, e2, by rw [← e1]; exact e3, e4⟩
theorem Ren.frm1 {c o : Cd} {σ σ' π π' : Nat → Nat} {e : Nat → Int} (R : Ren c o σ σ' π π' e) (h : frm c) : frm o := by
  obtain ⟨x, hx, i, hi, hix, hm⟩ := h
  obtain ⟨x', hx', him⟩ := R.co hx
  have hs := R.hs i hi
  refine ⟨x', hx', σ i, by rw [R.hN]; exact hs.1, fun q => hix ?_, ?_⟩
  · have := (him.2.2 _ hs.1).1 q
    rw [hs.2] at this; exact this
  · rw [R.hV _ hs.1, hs.2, R.mks (Vw_word R.hc hi) him]; exact hm
theorem Ren.frames {c o : Cd} {σ σ' π π' : Nat → Nat} {e : Nat → Int} (R : Ren c o σ σ' π π' e) : (frR (frA o 2)).2.2 = (frR (frA c 2)).2.2 := by
  rcases frR_err c with ⟨h1, h2⟩ | ⟨h1, h2⟩ <;> rcases frR_err o with ⟨g1, g2⟩ | ⟨g1, g2⟩
  · rw [h1, g1]
  · exact absurd (R.frm1 h2) g2
  · exact absurd (R.symm.frm1 g2) h2
  · rw [h1, g1]
theorem minF_congr {a : Int} {l l' : List Int} (h : ∀ x ∈ l, x ∈ l') (h' : ∀ x ∈ l', x ∈ l) : minF a l = minF a l' := by
  have le : ∀ {l l' : List Int}, (∀ x ∈ l, x ∈ l') → minF a l' ≤ minF a l := fun {l l'} h => by
    rcases minF_in l a with e | e
    · rw [e]; exact minF_le l' a
    · exact minF_lb (h _ e)
  have h1 := le h
  have h2 := le h'
  omega
theorem dsFrom_mem (ws : List (List Int)) {x : Int} : ∀ (rest : List (List Int)) (t : Nat), rest = ws.drop t → t ≤ ws.length → (x ∈ dsFrom ws t rest ↔ ∃ i k, t ≤ i ∧ i < ws.length ∧ k < i ∧ x = ap (ws.getD i []) (ws.getD k []))
  | [], t, h, ht => by
    have h2 := congrArg List.length h
    rw [List.length_drop, List.length_nil] at h2
    constructor
    · intro h; cases h
    · rintro ⟨i, k, h1, h3, _⟩; omega
  | y :: r, t, h, ht => by
    obtain ⟨h1, h2, h3⟩ := getD_drop (d := ([] : List Int)) h.symm
    rw [dsFrom_cons, List.mem_append, dsFrom_mem ws r (t + 1) h3.symm (by omega), dsOf, List.mem_map]
    constructor
    · rintro (⟨z, hz, rfl⟩ | ⟨i, k, q1, q2, q3, q4⟩)
      · obtain ⟨k, hk, rfl⟩ := List.getElem_of_mem hz
        rw [List.length_take] at hk
        refine ⟨t, k, Nat.le_refl _, h1, by omega, ?_⟩
        rw [h2, List.getElem_take, List.getD_eq_getElem?_getD, List.getElem?_eq_getElem (by omega)]; rfl
      · exact ⟨i, k, by omega, q2, q3, q4⟩
    · rintro ⟨i, k, q1, q2, q3, rfl⟩
      by_cases e : i = t
      · subst e
        refine .inl ⟨ws.getD k [], ?_, by rw [h2]⟩
        have : (ws.take i).getD k [] = ws.getD k [] := by
          rw [List.getD_eq_getElem?_getD, List.getElem?_take_of_lt q3, ← List.getD_eq_getElem?_getD]
        rw [← this]
        exact getD_mem (by rw [List.length_take]; omega)
      · exact .inr ⟨i, k, by omega, q2, q3, rfl⟩
theorem ap_sym {c : Cd} {a b : List Int} (ha : a.length = sz c) (hb : b.length = sz c) : ap a b = ap b a := by
  have h1 := ap_ag (b := b) ha
  have h2 := ap_ag (b := a) hb
  rw [ag_comm] at h1
  omega
theorem Ren.ap {c o : Cd} {σ σ' π π' : Nat → Nat} {e : Nat → Int} (R : Ren c o σ σ' π π' e) {i k : Nat} (hi : i < c.2.1.length) (hk : k < c.2.1.length) : Go.Proofs.YtbjfbbfglkmadaaDoor.ap (wd o i) (wd o k) = Go.Proofs.YtbjfbbfglkmadaaDoor.ap (wd c (σ' i)) (wd c (σ' k)) := by
  have si := R.hs' i hi
  have sk := R.hs' k hk
  have wi := Vw_word R.hc si.1
  have wk := Vw_word R.hc sk.1
  have h1 := ap_ag (a := wd o i) (b := wd o k) (n := sz c) (by rw [R.hV i hi, mvw_len])
  have h2 := ap_ag (a := wd c (σ' i)) (b := wd c (σ' k)) wi.1
  have h3 : ag (sz c) (wd o i) (wd o k) = ag (sz c) (wd c (σ' i)) (wd c (σ' k)) := by
    unfold ag
    rw [← count_bij (f := π') (g := π) R.hp' R.hp (agr (wd c (σ' i)) (wd c (σ' k)))]
    refine countP_same fun j hj => decide_eq_decide.2 ?_
    rw [R.hV i hi, R.hV k hk]
    exact R.agree wi wk (by rw [List.mem_range'_1] at hj; omega)
  omega
theorem Ren.ds1 {c o : Cd} {σ σ' π π' : Nat → Nat} {e : Nat → Int} (R : Ren c o σ σ' π π' e) {x : Int} (hx : x ∈ dsFrom o.2.1 0 o.2.1) : x ∈ dsFrom c.2.1 0 c.2.1 := by
  obtain ⟨i, k, _, hi, hk, rfl⟩ := (dsFrom_mem o.2.1 o.2.1 0 rfl (Nat.zero_le _)).1 hx
  rw [R.hN] at hi
  refine (dsFrom_mem c.2.1 c.2.1 0 rfl (Nat.zero_le _)).2 ?_
  have hap := R.ap hi (show k < c.2.1.length by omega)
  have si := R.hs' i hi
  have sk := R.hs' k (by omega)
  rcases Nat.lt_trichotomy (σ' i) (σ' k) with h | h | h
  · exact ⟨σ' k, σ' i, Nat.zero_le _, sk.1, h, hap.trans (ap_sym (Vw_word R.hc si.1).1 (Vw_word R.hc sk.1).1)⟩
  · have := si.2
    rw [h, sk.2] at this; omega
  · exact ⟨σ' i, σ' k, Nat.zero_le _, si.1, h, hap⟩
theorem Ren.dist {c o : Cd} {σ σ' π π' : Nat → Nat} {e : Nat → Int} (R : Ren c o σ σ' π π' e) : minF (sz o) (dsFrom o.2.1 0 o.2.1) = minF (sz c) (dsFrom c.2.1 0 c.2.1) := by
  rw [R.hz]
  exact minF_congr (fun x hx => R.ds1 hx) fun x hx => R.symm.ds1 hx
end Go.Proofs.YtbjfbbfglkmadaaDoor
