/-
  Renamed marks, places in another order, and customers turned change nothing.
-/
import Derived.Test.YtbjfbbfglkmadaaDoorXR
import Derived.Test.YtbjfbbfglkmadaaDoorQ12
namespace Go.Proofs.YtbjfbbfglkmadaaDoor
open Go.RowKit
set_option linter.unusedVariables false

def up (n t k : Nat) : Nat := (k + t) % n
def dn (n t j : Nat) : Nat := (j + (n - t % n)) % n
theorem mod_two {n k : Nat} (h : k < 2 * n) : (k < n ∧ k % n = k) ∨ (n ≤ k ∧ k % n = k - n) := by
  by_cases hk : k < n
  · exact .inl ⟨hk, Nat.mod_eq_of_lt hk⟩
  · exact .inr ⟨by omega, by rw [Nat.mod_eq_sub_mod (by omega), Nat.mod_eq_of_lt (by omega)]⟩
theorem up_eq (n t k : Nat) : up n t k = (k + t % n) % n := by rw [up, Nat.add_mod_mod]
theorem up_dn {n : Nat} (hn : 0 < n) (t : Nat) : ∀ k, k < n → up n t k < n ∧ dn n t (up n t k) = k := fun k hk => by
  have hr := Nat.mod_lt t hn
  rw [up_eq, dn]
  rcases mod_two (n := n) (k := k + t % n) (by omega) with ⟨h1, h2⟩ | ⟨h1, h2⟩
  · rw [h2]
    refine ⟨h1, ?_⟩
    rcases mod_two (n := n) (k := k + t % n + (n - t % n)) (by omega) with ⟨h3, h4⟩ | ⟨h3, h4⟩ <;> omega
  · rw [h2]
    refine ⟨by omega, ?_⟩
    rcases mod_two (n := n) (k := k + t % n - n + (n - t % n)) (by omega) with ⟨h3, h4⟩ | ⟨h3, h4⟩ <;> omega
theorem dn_up {n : Nat} (hn : 0 < n) (t : Nat) : ∀ j, j < n → dn n t j < n ∧ up n t (dn n t j) = j := fun j hj => by
  have hr := Nat.mod_lt t hn
  rw [up_eq, dn]
  rcases mod_two (n := n) (k := j + (n - t % n)) (by omega) with ⟨h1, h2⟩ | ⟨h1, h2⟩
  · rw [h2]
    refine ⟨h1, ?_⟩
    rcases mod_two (n := n) (k := j + (n - t % n) + t % n) (by omega) with ⟨h3, h4⟩ | ⟨h3, h4⟩ <;> omega
  · rw [h2]
    refine ⟨by omega, ?_⟩
    rcases mod_two (n := n) (k := j + (n - t % n) - n + t % n) (by omega) with ⟨h3, h4⟩ | ⟨h3, h4⟩ <;> omega
theorem tmodN (a b : Nat) : Int.tmod (a : Int) (b : Int) = ((a % b : Nat) : Int) := by rw [tmod_emod (by omega)]; exact (Int.natCast_emod a b).symm
theorem set_get {α : Type} {l : List α} {t k : Nat} {x d : α} (ht : t < l.length) : (l.set t x).getD k d = if t = k then x else l.getD k d := by
  rw [List.getD_eq_getElem?_getD, List.getElem?_set, List.getD_eq_getElem?_getD]
  by_cases h : t = k
  · rw [if_pos h, if_pos h, if_pos (by omega)]; rfl
  · rw [if_neg h, if_neg h]
theorem set_up {α : Type} {n t0 : Nat} {d : α} {o : List α} {f : Nat → α} {t : Nat} {x : α} (ht : t < n) (ho : o.length = n) (hI : ∀ k, k < t → o.getD (up n t0 k) d = f k) (hx : x = f t) :
    (o.set (up n t0 t) x).length = n ∧ ∀ k, k < t + 1 → (o.set (up n t0 t) x).getD (up n t0 k) d = f k := by
  have h0 : 0 < n := by omega
  have hu := up_dn h0 t0 t ht
  refine ⟨by rw [List.length_set]; exact ho, fun k hk => ?_⟩
  rw [set_get (by omega)]
  by_cases e : t = k
  · subst e; rw [if_pos rfl, hx]
  · have hne : up n t0 t ≠ up n t0 k := fun q => e (by rw [← hu.2, q, (up_dn h0 t0 k (by omega)).2])
    rw [if_neg hne]
    exact hI k (by omega)
abbrev tns (turns : List Int) (p t : Nat) : Nat → Int := fun j => turns.getD (dn p t j) 0
def B48c (w : List Int) (p : Int) (turns : List Int) (c : Cd) (turn : Int) : Option (List Int) :=
  if ((w.length : Int) = p ∧ 1 ≤ w.length ∧ w.length ≤ 4) ∧ okB4 turns = true ∧ (2 ≤ c.1 ∧ c.1 ≤ 4) ∧ (0 ≤ turn ∧ turn ≤ 255) ∧ (∀ m ∈ w, 0 ≤ m ∧ m < c.1) then
    some (mvw w.length c.1 (dn w.length turn.toNat) (tns turns w.length turn.toNat) w) else none
theorem KB48c : FnOk Tryd.prog 48 (F48c B48c) := ok48c B48c fun w p turns c turn r h => ⟨11, by
  simp only [B48c] at h
  split at h
  · rename_i hh
    obtain ⟨⟨rfl, hw1, hw4⟩, hb, hM, ht, hwr⟩ := hh
    obtain ⟨b1, b2⟩ := okB4_at hb
    obtain ⟨q, rfl⟩ : ∃ j : Nat, turn = j := ⟨turn.toNat, by omega⟩
    rw [← h, m48c, chk_of (by simp [mkOk]; omega), Int.toNat_natCast, Int.toNat_natCast]
    refine rangeP w 0 (fun n o t => l48ca 11 w (w.length : Int) turns c (q : Int) n t o) (fun t rest o => o.length = w.length ∧ ∀ k, k < t → o.getD (up w.length q k) 0 = (w.getD k 0 + turns.getD k 0) % c.1) (fun r => r = some (mvw w.length c.1 (dn w.length q) (tns turns w.length q) w)) (fun n o t x rest htl hx hd hI ih => ?_) (fun n o hI => ?_) 11 (List.replicate w.length 0) (by omega) ⟨by simp, fun k hk => by omega⟩
    · obtain ⟨i1, i2⟩ := hI
      have hxr := hwr x (hx ▸ getD_mem htl)
      have htr := b2 _ (getD_mem (l := turns) (d := 0) (show t < turns.length by omega))
      have hu := (up_dn (show 0 < w.length by omega) q t htl).1
      have e1 : Int.tmod (w64 ((t : Int) + w64 (q : Int))) (w.length : Int) = ((up w.length q t : Nat) : Int) := by
        rw [w64_small (x := (q : Int)) (by omega), w64_small (by omega), show (t : Int) + (q : Int) = ((t + q : Nat) : Int) by omega, tmodN]; rfl
      rw [l48ca, ixA htl, cond_true, chk_dec (by omega), ixB htl, chk_true, chk_dec (by omega), chk_dec (by omega), e1, chk_dec (by omega), ixW htl (by omega), Int.toNat_natCast, Int.toNat_natCast, hx, w64_small (x := turns.getD t 0) (by omega), w64_small (by omega), tmod_emod (by omega)]
      refine ih _ (set_up htl i1 i2 ?_)
      rw [hx]
    · obtain ⟨i1, i2⟩ := hI
      rw [l48ca, ixE, cond_false]
      refine congrArg some (ext0 i1 mvw_len fun j hj => ?_)
      have := dn_up (show 0 < w.length by omega) q j hj
      rw [mvw_get hj, ← i2 _ this.1, this.2]
  · cases h⟩
def B12 (s : Sh) (by1 turns : List Int) (turn : Int) : Option Bool := if okSh s = true ∧ okB4 by1 = true ∧ okB4 turns = true ∧ (0 ≤ turn ∧ turn ≤ 255) then some true else none
theorem ren_of {c o : Cd} {turns : List Int} {q : Nat} (hc : cdE c = 0) (hM : o.1 = c.1) (hl : o.2.1.length = c.2.1.length)
    (hV : ∀ i, i < c.2.1.length → o.2.1.getD (up c.2.1.length q i) [] = mvw (sz c) c.1 (dn (sz c) q) (tns turns (sz c) q) (wd c i)) :
    Ren c o (up c.2.1.length q) (dn c.2.1.length q) (up (sz c) q) (dn (sz c) q) (tns turns (sz c) q) := by
  obtain ⟨hm, hn, hz, hlen, hb⟩ := cdE_ok hc
  have V : ∀ j, j < c.2.1.length → wd o j = mvw (sz c) c.1 (dn (sz c) q) (tns turns (sz c) q) (wd c (dn c.2.1.length q j)) := fun j hj => by
    have := dn_up hn.1 q j hj
    rw [← hV _ this.1, this.2]
  have hall : ∀ w ∈ o.2.1, w.length = sz c ∧ ∀ m ∈ w, 0 ≤ m ∧ m < c.1 := fun w hw => by
    obtain ⟨j, hj, rfl⟩ := List.getElem_of_mem hw
    have h1 := V j (by omega)
    rw [wd, List.getD_eq_getElem?_getD, List.getElem?_eq_getElem hj] at h1
    simp only [Option.getD_some] at h1
    rw [h1]
    refine ⟨mvw_len, fun m hmm => ?_⟩
    obtain ⟨k, hk, rfl⟩ := List.mem_map.1 hmm
    exact ⟨Int.emod_nonneg _ (by omega), Int.emod_lt_of_pos _ (by omega)⟩
  have hsz : sz o = sz c := (hall _ (getD_mem (l := o.2.1) (d := []) (by omega))).1
  exact { hc := hc, ho := cdE_of (by omega) (by omega) (by omega) (fun w hw => by rw [hsz]; exact (hall w hw).1) (fun w hw => by rw [hM]; exact (hall w hw).2),
          hM := hM, hN := hl, hz := hsz, hs := up_dn hn.1 q, hs' := dn_up hn.1 q, hp := up_dn hz.1 q, hp' := dn_up hz.1 q, hV := V }
theorem smB_of {c : Cd} (hc : cdE c = 0) : smB c = true := by
  obtain ⟨hm, hn, hz, hlen, hb⟩ := cdE_ok hc
  simp only [smB, Bool.and_eq_true, decide_eq_true_eq, List.all_eq_true]
  exact ⟨by omega, fun w hw => by have := hlen w hw; omega⟩
theorem KB12 : FnOk Tryd.prog 12 (F12 B12) := ok12 (some true) B16 B28 B34 B36 B40 B48c K15t KB16 KB28 KB34 KB36 KB40 KB48c B12 fun s by1 turns turn r h => ⟨41, by
  simp only [B12] at h
  split at h
  · rename_i hh
    obtain ⟨hs, hb1, hb2, ht⟩ := hh
    obtain ⟨b1, b2⟩ := okB4_at hb1
    obtain ⟨hc, hsm, hn, hsz, hM, hP⟩ := mdC_ok hs
    obtain ⟨q, rfl⟩ : ∃ j : Nat, turn = j := ⟨turn.toNat, by omega⟩
    rw [← h, m12, B40, if_pos hs, Option.bind_some]
    generalize hC : mdC s = c at *
    obtain ⟨hm, hn10, hz, hlen, hbd⟩ := cdE_ok hc
    have hszl : (c.2.1.getD 0 []).length = sz c := rfl
    rw [chk_dec (by omega), chk_of (by simp [mkOk]; omega), Int.toNat_natCast]
    have e48 : ∀ w, Vw c w → B48c w (sz c : Int) turns c (q : Int) = some (mvw (sz c) c.1 (dn (sz c) q) (tns turns (sz c) q) w) := fun w hw => by
      rw [B48c, if_pos ⟨by have := hw.1; omega, hb2, by omega, by omega, hw.2⟩, hw.1, Int.toNat_natCast]
    refine rangeP c.2.1 [] (fun n o t => l12a (some true) B16 B28 B34 B36 B40 B48c 41 by1 turns (q : Int) c n t o) (fun t rest o => o.length = c.2.1.length ∧ ∀ i, i < t → o.getD (up c.2.1.length q i) [] = mvw (sz c) c.1 (dn (sz c) q) (tns turns (sz c) q) (wd c i)) (fun r => r = some true) (fun n o t x rest htl hx hd hI ih => ?_) (fun n o hI => ?_) 41 (List.replicate c.2.1.length []) (by omega) ⟨by simp, fun k hk => by omega⟩
    · obtain ⟨i1, i2⟩ := hI
      have hu := (up_dn hn10.1 q t htl).1
      have e1 : Int.tmod (w64 ((t : Int) + w64 (q : Int))) (c.2.1.length : Int) = ((up c.2.1.length q t : Nat) : Int) := by
        rw [w64_small (x := (q : Int)) (by omega), w64_small (by omega), show (t : Int) + (q : Int) = ((t + q : Nat) : Int) by omega, tmodN]; rfl
      rw [l12a, ixA htl, cond_true, ixB htl, chk_true, chk_dec (by omega), Int.toNat_natCast, hszl, e48 _ (Vw_word hc htl), Option.bind_some, e1, chk_dec (by omega), Int.toNat_natCast, ixW htl (by omega)]
      exact ih _ (set_up (f := fun i => mvw (sz c) c.1 (dn (sz c) q) (tns turns (sz c) q) (wd c i)) htl i1 i2 rfl)
    · obtain ⟨i1, i2⟩ := hI
      have R := ren_of (c := c) (o := (c.1, o, ())) (turns := turns) (q := q) hc rfl i1 i2
      generalize ho : ((c.1, o, ()) : Cd) = oc at R
      rw [l12a, ixE, cond_false, hszl, chk_of (by simp [mkOk]; omega), Int.toNat_natCast]
      refine countP' 0 (sz c : Int) (by omega) (fun n w t => l12b (some true) B16 B28 B34 B36 B40 B48c 41 by1 turns (q : Int) c o n t w) (fun t w => w.length = sz c ∧ ∀ k : Nat, (k : Int) < t → w.getD k 0 = by1.getD k 0 % c.1) (fun r => r = some true) (fun n w t a1 a2 hI ih => ?_) (fun n w hI => ?_) 41 (List.replicate (sz c) 0) (by omega) ⟨by simp, fun k hk => by omega⟩
      · obtain ⟨j1, j2⟩ := hI
        obtain ⟨t, rfl⟩ : ∃ j : Nat, t = j := ⟨t.toNat, by omega⟩
        have htr := b2 _ (getD_mem (l := by1) (d := 0) (show t < by1.length by omega))
        rw [l12b, hszl, Int.toNat_natCast, List.length_replicate, decide_eq_true a2, cond_true, chk_dec (by omega), chk_dec (by omega), chk_dec (by omega), Int.toNat_natCast, w64_small (x := by1.getD t 0) (by omega), tmod_emod (by omega), w64_small (by omega)]
        refine ih _ ⟨by rw [List.length_set]; exact j1, fun k hk => ?_⟩
        rw [set_get (by omega)]
        by_cases e : t = k
        · subst e; rw [if_pos rfl]
        · rw [if_neg e]; exact j2 k (by omega)
      · obtain ⟨j1, j2⟩ := hI
        have hV : Vw c w := ⟨j1, fun m hm => by
          obtain ⟨k, hk, rfl⟩ := List.getElem_of_mem hm
          have := j2 k (by omega)
          rw [List.getD_eq_getElem?_getD, List.getElem?_eq_getElem hk] at this
          simp only [Option.getD_some] at this
          rw [this]
          exact ⟨Int.emod_nonneg _ (by omega), Int.emod_lt_of_pos _ (by omega)⟩⟩
        have hV' := R.valid hV
        have hwc := cwE_of hc hV.1 hV.2
        have hwo := cwE_of R.ho hV'.1 hV'.2
        have hso := smB_of R.ho
        have e16 : B16 oc = B16 c := by
          rw [B16, B16, if_pos hsm, if_pos hso, R.ho, hc, R.hN, R.dist]
        have e28 : B28 c w 2 = some (cond (guA c w 2).2 (gl c w 2, 0) ([], 14)) := by rw [B28, if_pos ⟨hsm, by omega⟩, gu_two hwc]
        have e28' : B28 oc (mvw (sz c) c.1 (dn (sz c) q) (tns turns (sz c) q) w) 2 = some (cond (guA c w 2).2 (gl oc (mvw (sz c) c.1 (dn (sz c) q) (tns turns (sz c) q) w) 2, 0) ([], 14)) := by
          rw [B28, if_pos ⟨hso, by rw [mvw_len]; omega⟩, gu_two hwo, R.found hV]
        have e36 : B36 c = some (dbV c) := if_pos hsm
        have e36' : B36 oc = some (dbV oc) := if_pos hso
        have e34 : B34 c 2 = some (frR (frA c 2)) := by rw [B34, if_pos hsm, decide_eq_true hc]; rfl
        have e34' : B34 oc 2 = some (frR (frA oc 2)) := by rw [B34, if_pos hso, decide_eq_true R.ho]; rfl
        obtain ⟨d, ed⟩ : ∃ d, B16 c = some d := ⟨_, if_pos hsm⟩
        rw [l12b, hszl, Int.toNat_natCast, List.length_replicate, decide_eq_false (Int.lt_irrefl _), cond_false, ho, e16, ed, Option.bind_some, Option.bind_some, e28, Option.bind_some, e48 _ hV, Option.bind_some, e28', Option.bind_some, e36, Option.bind_some, e36', Option.bind_some, e34, Option.bind_some, e34', Option.bind_some]
        rw [show (d.1 != d.1) = false by simp, cond_false, show (d.2 != d.2) = false by simp, cond_false]
        rw [dbV_snd hc, dbV_snd R.ho, R.cvA, R.frames]
        have hgl := R.guilty_len hV
        have hg10 := gl_len (c := c) (w := w) hn10.2
        have hgm : ∀ i : Nat, (i : Int) ∈ gl c w 2 → ((up c.2.1.length q i : Nat) : Int) ∈ gl oc (mvw (sz c) c.1 (dn (sz c) q) (tns turns (sz c) q) w) 2 := fun i hi => by
          have hir := gl_in _ hi
          have hu := up_dn hn10.1 q i (by omega)
          rw [R.guilty hV hu.1, hu.2]; exact hi
        generalize gl oc (mvw (sz c) c.1 (dn (sz c) q) (tns turns (sz c) q) w) 2 = G' at *
        have hG := gl_in (c := c) (w := w)
        generalize gl c w 2 = G at *
        cases hf : (guA c w 2).2 with
        | false =>
          dsimp only [cond_false]
          simp only [bne_self_eq_false, cond_false]
          rw [l12c]
          rfl
        | true =>
          dsimp only [cond_true]
          simp only [bne_self_eq_false, cond_false, hgl]
          refine rangeP G 0 (fun n (_ : Unit) t => l12c (some true) B16 B28 B34 B36 B40 B48c 41 (q : Int) c (G, 0) (G', 0) n t) (fun _ _ _ => True) (fun r => r = some true) (fun n _ t x rest htl hx hd hI ih => ?_) (fun n _ _ => ?_) 41 () (by omega) trivial
          · have hxm : x ∈ G := hx ▸ getD_mem htl
            have hxr := hG x hxm
            obtain ⟨i, rfl⟩ : ∃ j : Nat, x = j := ⟨x.toNat, by omega⟩
            have hin := hgm i hxm
            rw [l12c]
            dsimp only
            rw [ixA htl, cond_true, ixB htl, chk_true]
            have e1 : Int.tmod (w64 ((i : Int) + w64 (q : Int))) (c.2.1.length : Int) = ((up c.2.1.length q i : Nat) : Int) := by
              rw [w64_small (x := (q : Int)) (by omega), w64_small (by omega), show (i : Int) + (q : Int) = ((i + q : Nat) : Int) by omega, tmodN]; rfl
            refine (rangeInd G' 0 (fun n' (s : Bool) j => l12d (some true) B16 B28 B34 B36 B40 B48c 41 (q : Int) c (G, 0) (G', 0) (t : Int) (fun y0 => l12c (some true) B16 B28 B34 B36 B40 B48c 41 (q : Int) c (G, 0) (G', 0) n y0) n' s j) (fun ys s => cond (s || ys.any fun r => decide (((up c.2.1.length q i : Nat) : Int) = r)) (some true) (some false)) (fun n' s j y ys hj hy ih2 => ?_) (fun n' s => ?_) 41 false (by omega)).trans ?_
            · rw [l12d]
              dsimp only
              rw [ixA hj, cond_true, ixB hj, chk_true, Int.toNat_natCast, hx, Int.toNat_natCast, hy, ixW hj (by omega), List.any_cons]
              cases s with
              | true => rw [cond_true, ih2]; rfl
              | false =>
                rw [cond_false, decide_eq_true (by omega), cond_true, decide_eq_true (by omega), cond_true, chk_dec (by omega), e1, ih2, beqDec, Bool.false_or]
            · rw [l12d]
              dsimp only
              rw [ixE, cond_false, List.any_nil, Bool.or_false, ixW htl (by omega), ih () trivial]
              cases s <;> rfl
            · rw [Bool.false_or, show (G'.any fun r => decide (((up c.2.1.length q i : Nat) : Int) = r)) = true from List.any_eq_true.2 ⟨_, hin, decide_eq_true rfl⟩]; rfl
          · rw [l12c]
            dsimp only
            rw [ixE, cond_false]; rfl
  · cases h⟩
end Go.Proofs.YtbjfbbfglkmadaaDoor
