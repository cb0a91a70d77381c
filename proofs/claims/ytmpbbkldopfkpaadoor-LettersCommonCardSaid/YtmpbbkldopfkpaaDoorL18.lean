/-
 All beginnings; the law of the common beginning.
-/
import Derived.Test.YtmpbbkldopfkpaaDoorL17
import Derived.Test.YtmpbbkldopfkpaaDoorQM35c
import Derived.Test.YtmpbbkldopfkpaaDoorQM8
import Derived.Test.YtmpbbkldopfkpaaDoorWC0
namespace Go.Proofs.YtmpbbkldopfkpaaDoor
open Go.RowKit
set_option linter.unusedVariables false

abbrev Sw := List (Wd × Bool)
abbrev putS (L : Sw) (k : Wd) : Sw := mput (kt := .str) (vt := .bool) L k true
abbrev getS (L : Sw) (k : Wd) : Option Bool := mget (kt := .str) (vt := .bool) L k
def ksS (L : Sw) : List Wd := L.map (·.1)
structure Gd (L : Sw) : Prop where
 nd : (ksS L).Nodup
 tr : ∀ p ∈ L, p.2 = true
theorem putS_cons (p : Wd × Bool) (L : Sw) (k : Wd) : putS (p :: L) k = if k = p.1 then (k, true) :: L else p :: putS L k := by
 show cond (k == p.1) ((k, true) :: L) (p :: putS L k) = _
 by_cases h : k = p.1
 ·rw [if_pos h, beq_iff_eq.2 h, cond_true]
 ·rw [if_neg h, beq_eq_false_iff_ne.2 h, cond_false]
theorem putS_keys (k : Wd) : ∀ (L : Sw) (x : Wd), x ∈ ksS (putS L k) ↔ x ∈ ksS L ∨ x = k
 | [], x => by
  show x ∈ [k] ↔ x ∈ [] ∨ x = k
  simp
 | p :: L, x => by
  rw [putS_cons]
  have ih := putS_keys k L x
  simp only [ksS] at ih
  by_cases h : k = p.1
  ·rw [if_pos h]; simp only [ksS, List.map_cons, List.mem_cons]
   constructor
   ·rintro (h1 | h1)
    ·exact .inr h1
    ·exact .inl (.inr h1)
   ·rintro ((h1 | h1) | h1)
    ·exact .inl (h1.trans h.symm)
    ·exact .inr h1
    ·exact .inl h1
  ·rw [if_neg h]; simp only [ksS, List.map_cons, List.mem_cons, ih]
   rw [or_assoc]
theorem putS_good {L : Sw} (k : Wd) (h : Gd L) : Gd (putS L k) := by
 induction L with
 | nil => exact ⟨(show ([k] : List Wd).Nodup by simp), fun p hp => by
   have : p ∈ [(k, true)] := hp
   rw [List.mem_singleton.1 this]⟩
 | cons p L ih =>
  have h1 := h.nd
  simp only [ksS, List.map_cons, List.nodup_cons] at h1
  have ih := ih ⟨h1.2, fun q hq => h.tr q (by simp [hq])⟩
  rw [putS_cons]
  by_cases e : k = p.1
  ·rw [if_pos e]
   refine ⟨?_, fun q hq => ?_⟩
   ·simp only [ksS, List.map_cons, List.nodup_cons]
    exact ⟨e ▸ h1.1, h1.2⟩
   ·rcases List.mem_cons.1 hq with rfl | hq
    ·rfl
    ·exact h.tr q (by simp [hq])
  ·rw [if_neg e]
   refine ⟨?_, fun q hq => ?_⟩
   ·simp only [ksS, List.map_cons, List.nodup_cons]
    refine ⟨fun hm => ?_, ih.nd⟩
    rcases (putS_keys k L p.1).1 hm with hm | hm
    ·exact h1.1 hm
    ·exact e hm.symm
   ·rcases List.mem_cons.1 hq with rfl | hq
    ·exact h.tr _ (by simp)
    ·exact ih.tr q hq
def puts (L : Sw) (ks : List Wd) : Sw := ks.foldl putS L
theorem puts_good : ∀ (ks : List Wd) {L : Sw}, Gd L → Gd (puts L ks)
 | [], _, h => h
 | k :: ks, L, h => puts_good ks (putS_good k h)
theorem puts_keys : ∀ (ks : List Wd) (L : Sw) (x : Wd), x ∈ ksS (puts L ks) ↔ x ∈ ksS L ∨ x ∈ ks
 | [], L, x => by simp [puts]
 | k :: ks, L, x => by
  show x ∈ ksS (puts (putS L k) ks) ↔ _
  rw [puts_keys ks, putS_keys, List.mem_cons, or_assoc]
theorem Gd.nodup {L : Sw} (h : Gd L) : L.Nodup := (List.pairwise_map.1 h.nd).imp fun {a b} hab e => hab (by rw [e])
theorem Gd.mem {L : Sw} (h : Gd L) (p : Wd × Bool) : p ∈ L ↔ p.1 ∈ ksS L ∧ p.2 = true := by
 constructor
 ·exact fun hp => ⟨List.mem_map.2 ⟨p, hp, rfl⟩, h.tr p hp⟩
 ·rintro ⟨h1, h2⟩
  obtain ⟨q, hq, e⟩ := List.mem_map.1 h1
  have := h.tr q hq
  obtain ⟨x, b⟩ := p
  obtain ⟨y, c⟩ := q
  simp only at e h2 this
  subst e; subst h2; subst this; exact hq
theorem Gd.perm {L L' : Sw} (h : Gd L) (h' : Gd L') (hk : ∀ x, x ∈ ksS L ↔ x ∈ ksS L') : L.Perm L' :=
 (List.perm_ext_iff_of_nodup h.nodup h'.nodup).2 fun p => by rw [h.mem, h'.mem, hk]
theorem Gd.get {L : Sw} (h : Gd L) (k : Wd) : (getS L k).getD false = decide (k ∈ ksS L) := by
 induction L with
 | nil => rfl
 | cons p L ih =>
  have h1 := h.nd
  simp only [ksS, List.map_cons, List.nodup_cons] at h1
  show (cond (k == p.1) (some p.2) (getS L k)).getD false = _
  by_cases e : k = p.1
  ·rw [beq_iff_eq.2 e, cond_true, decide_eq_true (by rw [e]; simp [ksS]), h.tr p (by simp)]; rfl
  ·rw [beq_eq_false_iff_ne.2 e, cond_false, ih ⟨h1.2, fun q hq => h.tr q (by simp [hq])⟩]
   exact decide_eq_decide.2 (by simp [ksS, e])
theorem Gd.one {L : Sw} (h : Gd L) (k : Wd) : decide ((L.filter fun p => DT.beq (.str) k p.1).length ≤ 1) = true := by
 refine decide_eq_true ?_
 have e : (L.filter fun p => DT.beq (.str) k p.1) = L.filter fun p => k == p.1 := rfl
 rw [e]
 induction L with
 | nil => simp
 | cons p L ih =>
  have h1 := h.nd
  simp only [ksS, List.map_cons, List.nodup_cons] at h1
  rw [List.filter_cons]
  by_cases q : k = p.1
  ·have : (L.filter fun p => k == p.1) = [] := by
    rw [List.filter_eq_nil_iff]
    intro x hx hb
    exact h1.1 (List.mem_map.2 ⟨x, hx, by rw [← q]; exact (beq_iff_eq.1 hb).symm⟩)
   rw [if_pos (beq_iff_eq.2 q), this]; simp
  ·rw [if_neg (by rw [beq_iff_eq]; exact q)]
   exact ih ⟨h1.2, fun q hq => h.tr q (by simp [hq])⟩ rfl
def pfx (t : Wd) : List Wd := (List.range' 0 (t.length + 1)).map fun k => t.take k
def prefs (K : List Wd) : List Wd := K.flatMap pfx
theorem mem_prefs {K : List Wd} {p : Wd} : p ∈ prefs K ↔ ∃ t ∈ K, ∃ r, t = p ++ r := by
 simp only [prefs, List.mem_flatMap, pfx, List.mem_map, List.mem_range'_1]
 constructor
 ·rintro ⟨t, ht, k, hk, rfl⟩
  exact ⟨t, ht, t.drop k, (List.take_append_drop k t).symm⟩
 ·rintro ⟨t, ht, r, rfl⟩
  exact ⟨_, ht, p.length, by simp; omega, by simp⟩
open Classical in
noncomputable def W (o : Of) (s : Wd) : Sw := match B29 o s with
 | some M => puts [] (prefs (keys M))
 | none => []
theorem gd_nil : Gd [] := ⟨by simp [ksS], fun p hp => by cases hp⟩
theorem W_good (o : Of) (s : Wd) : Gd (W o s) := by
 unfold W
 split
 ·exact puts_good _ gd_nil
 ·exact gd_nil
theorem W_mem {o : Of} (h0 : errO o = 0) {s : Wd} (hs : s.length ≤ 7) (hw : Ls o s) (p : Wd) : p ∈ ksS (W o s) ↔ (rst (Do o) p s).isSome = true := by
 have hB := Do_bnd h0
 obtain ⟨M, hM, hnd, hmem⟩ := B29_of h0 hs hw
 unfold W
 rw [hM]
 simp only
 rw [puts_keys]
 simp only [ksS, List.map_nil, List.not_mem_nil, false_or]
 rw [mem_prefs]
 constructor
 ·rintro ⟨t, ht, r, rfl⟩
  exact rst_isSome hB ((hmem _).1 ht)
 ·intro h
  obtain ⟨r, hr⟩ := Option.isSome_iff_exists.1 h
  exact ⟨p ++ r, (hmem _).2 (rst_some hB hr), r, rfl⟩
open Classical in
noncomputable def B35 (s : Wd) (p : List Of) : Option (List Of × Sw) := match p with
 | [o] => if errO o = 0 ∧ Ls o s ∧ s.length ≤ 7 then some ([o], W o s) else none
 | _ => none
theorem inner35 {w0 : List Of} {w1 : Sw} {N : Nat} {p1 : List Of} (h : Wd × Int) (g : List (Wd × Int)) (rec : Sw → List (Wd × Int) → Option Unit) (hl : h.1.length ≤ 1000) : ∀ (m k n : Nat) (L : Sw), k + m = h.1.length + 1 → m < n →
  l35cb B29 w0 w1 N p1 h g rec n (k : Int) L = rec (puts L ((List.range' k m).map fun k => h.1.take k)) g
 | 0, k, n + 1, L, e, _ => by
  rw [l35cb, decide_eq_false (by omega), cond_false]; rfl
 | m + 1, k, n + 1, L, e, hn => by
  rw [l35cb, decide_eq_true (by omega), cond_true, chk_dec (by omega), w64_succ (by omega), Int.toNat_natCast, inner35 h g rec hl m (k + 1) n _ (by omega) (by omega), List.range'_succ]
  rfl
theorem kb35 : FnOk Tryd.prog 35 (F35c B35) := ok35c B29 kb29 B35 fun s p r h => by
 unfold B35 at h
 split at h
 ·rename_i o
  split at h
  ·rename_i hh
   obtain ⟨h0, hw, hs⟩ := hh
   obtain rfl := Option.some.inj h
   obtain ⟨M, hM, hnd, hmem⟩ := B29_of h0 hs hw
   have hW : W o s = puts [] (prefs (keys M)) := by unfold W; rw [hM]
   have hlen : ∀ e ∈ M, e.1.length ≤ 7 := fun e he => by
    have := ((hmem e.1).1 (List.mem_map.2 ⟨e, he, rfl⟩)).length (Do_bnd h0); omega
   refine ⟨M.length + 20, ?_⟩
   unfold m35c
   show (B29 o s).bind _ = _
   rw [hM, Option.bind_some]
   have main : ∀ (n : Nat) (L : Sw) (rest : Mw), rest.length < n → Gd L → (∀ e ∈ rest, e.1.length ≤ 7) → (∀ x, (x ∈ ksS L ∨ x ∈ prefs (keys rest)) ↔ x ∈ prefs (keys M)) → l35ca B29 [o] (W o s) (M.length + 20) [o] n L rest = some () := by
    intro n
    induction n with
    | zero => intro L rest h; omega
    | succ n ih =>
     intro L rest hl hg hr hI
     rw [l35ca]
     refine eachK_of rest (fun hn => ?_) fun u e v he => ?_
     ·subst hn
      have hp : (W o s).Perm L := (W_good o s).perm hg fun x => by
       rw [hW, puts_keys, ← hI x]
       simp [ksS, prefs, keys]
      rw [decide_eq_true (show ([o] : List Of) = [o] from rfl), decide_eq_true hp]; rfl
     ·have hle := hr e (by rw [he]; simp)
      have := inner35 (w0 := [o]) (w1 := W o s) (N := M.length + 20) (p1 := [o]) e (u ++ v) (fun y0 y1 => l35ca B29 [o] (W o s) (M.length + 20) [o] n y0 y1) (by omega) (e.1.length + 1) 0 (M.length + 20) L (by omega) (by omega)
      rw [show ((0 : Nat) : Int) = 0 from rfl] at this
      rw [this]
      refine ih _ _ (by rw [he] at hl; simp only [List.length_append, List.length_cons] at hl ⊢; omega) (puts_good _ hg) (fun x hx => hr x (by
       rw [he]; rcases List.mem_append.1 hx with h | h <;> simp [h])) fun x => ?_
      rw [← hI x, puts_keys, he]
      have e1 : prefs (keys (u ++ e :: v)) = prefs (keys u) ++ (pfx e.1 ++ prefs (keys v)) := by simp [prefs, keys]
      have e2 : prefs (keys (u ++ v)) = prefs (keys u) ++ prefs (keys v) := by simp [prefs, keys]
      rw [e1, e2]
      simp only [List.mem_append]
      show (x ∈ ksS L ∨ x ∈ pfx e.1) ∨ _ ↔ _
      constructor
      ·rintro ((h | h) | h | h)
       ·exact .inl h
       ·exact .inr (.inr (.inl h))
       ·exact .inr (.inl h)
       ·exact .inr (.inr (.inr h))
      ·rintro (h | h | h | h)
       ·exact .inl (.inl h)
       ·exact .inr (.inl h)
       ·exact .inl (.inr h)
       ·exact .inr (.inr h)
   exact main _ [] M (by omega) gd_nil hlen fun x => by simp [ksS]
  ·cases h
 ·cases h
theorem B35_of {o : Of} (h0 : errO o = 0) {s : Wd} (hs : s.length ≤ 7) (hw : Ls o s) : B35 s [o] = some ([o], W o s) := if_pos ⟨h0, hw, hs⟩
theorem B25_of {o : Of} (h0 : errO o = 0) {a b : Wd} (la : a.length ≤ 14) (lb : b.length ≤ 14) (wa : Ls o a) (wb : Ls o b) : B25 o a b = some (nfo o (cmo o a b), 0) := by
 unfold B25
 rw [if_pos (errA_ok h0 fun l hl => by
  simp only [List.mem_cons, List.not_mem_nil, or_false] at hl
  rcases hl with rfl | rfl
  ·exact ⟨la, wa⟩
  ·exact ⟨lb, wb⟩)]
theorem KB8 : FnOk Tryd.prog 8 (F8 fun d p q => if u8z d.1 ∧ u8z d.2.1 ∧ u8l p ∧ u8l q then some true else none) := ok8 (some true) B22 B25 B26 B27 B35 K11t kb22 kb24 kb26 kb27 kb35 _ fun d p q r h => by
 split at h
 ·rename_i hq
  obtain ⟨d1, d2, hp, hqq⟩ := hq
  obtain rfl := Option.some.inj h
  have hB26 := B26_of d1 d2
  generalize d.1.toNat = K at hB26
  generalize d.2.1.toNat = F at hB26
  have h0 := (off_ok (K := K) (F := F)).1
  have hB := Do_bnd h0
  have lp := pst_len (kOf K) p 6
  have lq := pst_len (kOf K) q 6
  have wp := Ls_pst K F p 6
  have wq := Ls_pst K F q 6
  have e1 := B27_of K F hp (m := 6) (by omega)
  have e2 := B27_of K F hqq (m := 6) (by omega)
  generalize pst (kOf K) p 6 = a at lp wp e1
  generalize pst (kOf K) q 6 = b at lq wq e2
  generalize offN K F = o at h0 hB wp wq e1 e2 hB26
  refine ⟨(W o a).length + 1, ?_⟩
  have hab : ∀ z ∈ a, z ∈ abc := fun z hz => wp.abc h0 z hz
  have hsub := (cmn_sub (D := Do o) (ks := abc) a.length a b).1
  have hlen1 : (cmo o a b).length ≤ a.length := (cmn_sub a.length a b).2
  have hlen2 : (cmo o a b).length ≤ b.length := by rw [cmo_comm h0]; exact (cmn_sub b.length b a).2
  have wc : Ls o (cmo o a b) := fun z hz => wp z (hsub z hz)
  have hnc := nfo_eqv h0 wc
  have lnc := hnc.length hB
  have wnc : Ls o (nfo o (cmo o a b)) := wc.back h0 hnc
  obtain ⟨l1, l2⟩ := cmo_left h0 a b
  have l1' := rst_eqv h0 hnc.symm (Eqv.refl a) l1
  have l2' := rst_eqv h0 hnc.symm (Eqv.refl b) l2
  obtain ⟨ra, hra⟩ := Option.isSome_iff_exists.1 l1'
  obtain ⟨rb, hrb⟩ := Option.isSome_iff_exists.1 l2'
  have wra : Ls o ra := fun z hz => wp z (rst_mem hra z hz)
  have wrb : Ls o rb := fun z hz => wq z (rst_mem hrb z hz)
  have hna := nfo_eqv h0 wra
  have hnb := nfo_eqv h0 wrb
  have lna := hna.length hB
  have lnb := hnb.length hB
  have lra := rst_len hra
  have lrb := rst_len hrb
  have wna : Ls o (nfo o ra) := wra.back h0 hna
  have wnb : Ls o (nfo o rb) := wrb.back h0 hnb
  have hrest : cmo o (nfo o ra) (nfo o rb) = [] := cmo_rests h0 hab hnc ((Eqv.append (Eqv.refl _) hna).trans (rst_some hB hra)) ((Eqv.append (Eqv.refl _) hnb).trans (rst_some hB hrb))
  have en : nfo o [] = [] := rfl
  have h35a := B35_of h0 (s := a) (by omega) wp
  have h35b := B35_of h0 (s := b) (by omega) wq
  have h35c := B35_of h0 (s := nfo o (cmo o a b)) (by omega) wnc
  have q1 : ((0 : Int) != 0) = false := rfl
  unfold m8
  rw [hB26, Option.bind_some, show ((6 : Int)) = ((6 : Nat) : Int) from rfl, e1, Option.bind_some, e2, Option.bind_some, B25_of h0 (by omega) (by omega) wp wq, Option.bind_some, B25_of h0 (by omega) (by omega) wq wp, Option.bind_some]
  simp only [q1, cond_false, cmo_comm h0 b a, beq_self_eq_true, Bool.not_true, decide_eq_false (show ¬ (((nfo o (cmo o a b)).length : Int) > (a.length : Int)) by omega), decide_eq_false (show ¬ (((nfo o (cmo o a b)).length : Int) > (b.length : Int)) by omega)]
  rw [B22_of h0 (by omega) (by omega) wnc wp, hra, Option.bind_some, B22_of h0 (by omega) (by omega) wnc wq, hrb, Option.bind_some]
  simp only
  rw [B25_of h0 (by omega) (by omega) wna wnb, hrest, en, Option.bind_some]
  simp only [q1, cond_false, beq_self_eq_true, Bool.not_true]
  rw [h35a, Option.bind_some, h35b, Option.bind_some, h35c, Option.bind_some]
  have ka := W_mem h0 (s := a) (by omega) wp
  have kb := W_mem h0 (s := b) (by omega) wq
  have kc := W_mem h0 (s := nfo o (cmo o a b)) (by omega) wnc
  have ga := W_good o a
  have gb := W_good o b
  have gc := W_good o (nfo o (cmo o a b))
  have main : ∀ (n : Nat) (rest : Sw), rest.length < n → (∀ e ∈ rest, e.1 ∈ ksS (W o a)) → l8a (some true) B22 B25 B26 B27 B35 true ((W o a).length + 1) (nfo o (cmo o a b), 0) ([o], W o a) ([o], W o b) ([o], W o (nfo o (cmo o a b))) n rest = some () := by
   intro n
   induction n with
   | zero => intro rest h; omega
   | succ n ih =>
    intro rest hl hr
    rw [l8a]
    refine eachK_of rest (fun hn => ?_) fun u e v he => ?_
    ·simp only [ga.one, gb.one, chk_true]
     have t1 : (getS (W o a) (nfo o (cmo o a b))).getD false = true := by rw [ga.get]; exact decide_eq_true ((ka _).2 l1')
     have t2 : (getS (W o b) (nfo o (cmo o a b))).getD false = true := by rw [gb.get]; exact decide_eq_true ((kb _).2 l2')
     rw [t1, cond_true, t2, cond_true]; rfl
    ·have hee := hr e (by rw [he]; simp)
     have hnext := ih (u ++ v) (by rw [he] at hl; simp only [List.length_append, List.length_cons] at hl ⊢; omega) fun x hx => hr x (by
      rw [he]; rcases List.mem_append.1 hx with h | h <;> simp [h])
     simp only [gb.one, gc.one, chk_true]
     have t2 : (getS (W o b) e.1).getD false = decide (e.1 ∈ ksS (W o b)) := gb.get _
     rw [t2]
     by_cases hb : e.1 ∈ ksS (W o b)
     ·have hcm := rst_eqv h0 (Eqv.refl _) hnc.symm (cmo_gcd h0 hab ((ka _).1 hee) ((kb _).1 hb))
      have t3 : (getS (W o (nfo o (cmo o a b))) e.1).getD false = true := by rw [gc.get]; exact decide_eq_true ((kc _).2 hcm)
      rw [decide_eq_true hb, cond_true, t3, Bool.not_true, cond_false]
      exact hnext
     ·rw [decide_eq_false hb, cond_false]
      exact hnext
  exact main _ _ (show (W o a).length < (W o a).length + 1 by omega) fun e he => List.mem_map.2 ⟨e, he, rfl⟩
 ·cases h
end Go.Proofs.YtmpbbkldopfkpaaDoor
