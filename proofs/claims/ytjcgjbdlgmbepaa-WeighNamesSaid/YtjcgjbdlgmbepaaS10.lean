/-
  The law WeighNames.
-/
import Derived.Test.YtjcgjbdlgmbepaaS8
namespace Go.Proofs.Ytjcgjbdlgmbepaa
open Go.RowKit
set_option linter.unusedVariables false

/-- The turned number of a stone. -/
def tn (n turn y : Int) : Int := Int.tmod (w64 (y + w64 turn)) n
theorem tn_eq {n turn y : Int} (hn : 1 ≤ n ∧ n ≤ 13) (ht : 0 ≤ turn ∧ turn ≤ 255) (hy : 0 ≤ y ∧ y ≤ n - 1) : tn n turn y = (y + turn) % n := by
  unfold tn
  rw [w64_small (x := turn) (by omega), w64_small (by omega), Int.tmod_eq_emod_of_nonneg (by omega)]
theorem tn_in {n turn y : Int} (hn : 1 ≤ n ∧ n ≤ 13) (ht : 0 ≤ turn ∧ turn ≤ 255) (hy : 0 ≤ y ∧ y ≤ n - 1) : 0 ≤ tn n turn y ∧ tn n turn y ≤ n - 1 := by
  rw [tn_eq hn ht hy]
  have a := Int.emod_nonneg (y + turn) (show n ≠ 0 by omega)
  have b := Int.emod_lt_of_pos (y + turn) (show 0 < n by omega)
  omega
theorem tn_inj {n turn y z : Int} (hn : 1 ≤ n ∧ n ≤ 13) (ht : 0 ≤ turn ∧ turn ≤ 255) (hy : 0 ≤ y ∧ y ≤ n - 1) (hz : 0 ≤ z ∧ z ≤ n - 1) (h : tn n turn y = tn n turn z) : y = z := by
  rw [tn_eq hn ht hy, tn_eq hn ht hz] at h
  have e : n = 1 ∨ n = 2 ∨ n = 3 ∨ n = 4 ∨ n = 5 ∨ n = 6 ∨ n = 7 ∨ n = 8 ∨ n = 9 ∨ n = 10 ∨ n = 11 ∨ n = 12 ∨ n = 13 := by omega
  rcases e with rfl | rfl | rfl | rfl | rfl | rfl | rfl | rfl | rfl | rfl | rfl | rfl | rfl <;> omega
def upto (n : Int) : List Int := (List.range n.toNat).map fun (k : Nat) => (k : Int)
theorem mem_upto {n x : Int} : x ∈ upto n ↔ 0 ≤ x ∧ x < n := by
  simp only [upto, List.mem_map, List.mem_range]
  exact ⟨fun ⟨k, a, b⟩ => by omega, fun h => ⟨x.toNat, by omega, by omega⟩⟩
theorem upto_asc (n : Int) : (upto n).Pairwise (· < ·) := by
  unfold upto
  rw [List.pairwise_map]
  exact List.pairwise_lt_range.imp fun h => by omega
/-- A pan with other numbers, in ascending order. -/
def sortS (n turn : Int) (l : List Int) : List Int := (upto n).filter fun x => l.any fun y => tn n turn y == x
theorem mem_sortS {n turn x : Int} {l : List Int} : x ∈ sortS n turn l ↔ (0 ≤ x ∧ x < n) ∧ ∃ y ∈ l, tn n turn y = x := by
  simp only [sortS, List.mem_filter, mem_upto, List.any_eq_true, beq_iff_eq]
theorem sortS_asc (n turn : Int) (l : List Int) : (sortS n turn l).Pairwise (· < ·) := (upto_asc n).filter _
theorem nodup_of_asc {l : List Int} (h : l.Pairwise (· < ·)) : l.Nodup := h.imp fun h => by omega
theorem sortS_len {n turn : Int} {l : List Int} (hn : 1 ≤ n ∧ n ≤ 13) (ht : 0 ≤ turn ∧ turn ≤ 255) (ha : l.Pairwise (· < ·)) (hl : ∀ x ∈ l, 0 ≤ x ∧ x ≤ n - 1) : (sortS n turn l).length = l.length := by
  have p : (sortS n turn l).Perm (l.map (tn n turn)) := by
    refine (List.perm_ext_iff_of_nodup (nodup_of_asc (sortS_asc ..)) ?_).2 fun x => ?_
    · refine List.pairwise_map.2 (ha.imp_of_mem fun {a b} h1 h2 h3 => ?_)
      intro e
      have := tn_inj hn ht (hl a h1) (hl b h2) e
      omega
    · rw [mem_sortS, List.mem_map]
      constructor
      · intro ⟨_, y, hy, e⟩; exact ⟨y, hy, e⟩
      · intro ⟨y, hy, e⟩
        have := tn_in (turn := turn) hn ht (hl y hy)
        exact ⟨by omega, y, hy, e⟩
  rw [p.length_eq, List.length_map]
theorem sortS_has {n turn s : Int} {l : List Int} (hn : 1 ≤ n ∧ n ≤ 13) (ht : 0 ≤ turn ∧ turn ≤ 255) (hl : ∀ x ∈ l, 0 ≤ x ∧ x ≤ n - 1) (hs : 0 ≤ s ∧ s ≤ n - 1) : (sortS n turn l).contains (tn n turn s) = l.contains s := by
  rw [List.contains_eq_mem, List.contains_eq_mem]
  refine decide_eq_decide.2 ?_
  rw [mem_sortS]
  constructor
  · intro ⟨_, y, hy, e⟩
    rw [← tn_inj hn ht (hl y hy) hs e]; exact hy
  · intro h
    have := tn_in (turn := turn) hn ht hs
    exact ⟨by omega, s, h, rfl⟩

def ok53 (l : List Int) (n turn : Int) : Prop := (1 ≤ n ∧ n ≤ 13) ∧ (0 ≤ turn ∧ turn ≤ 255) ∧ panE n [] (-1) l = 0
instance (l : List Int) (n turn : Int) : Decidable (ok53 l n turn) := inferInstanceAs (Decidable (_ ∧ _))
def B53 (l : List Int) (n turn : Int) : Option (List Int × Int × Int) := if ok53 l n turn then some (sortS n turn l, n, turn) else none
/-- One number is met at most once. -/
theorem once {n turn x : Int} (hn : 1 ≤ n ∧ n ≤ 13) (ht : 0 ≤ turn ∧ turn ≤ 255) : ∀ {l : List Int}, l.Pairwise (· < ·) → (∀ x ∈ l, 0 ≤ x ∧ x ≤ n - 1) →
    (l.filter fun y => tn n turn y == x).map (fun _ => x) = cond (l.any fun y => tn n turn y == x) [x] []
  | [], _, _ => rfl
  | y :: ys, ha, hl => by
    obtain ⟨a, b⟩ := List.pairwise_cons.1 ha
    have ih := once (x := x) hn ht b fun z hz => hl z (List.mem_cons_of_mem _ hz)
    rw [List.filter_cons, List.any_cons]
    by_cases e : tn n turn y = x
    · have none : ∀ z ∈ ys, ¬ (tn n turn z == x) = true := by
        intro z hz e2
        have e2 : tn n turn z = x := by simpa using e2
        have := tn_inj hn ht (hl y (List.mem_cons_self ..)) (hl z (List.mem_cons_of_mem _ hz)) (e.trans e2.symm)
        have := a z hz
        omega
      rw [show (tn n turn y == x) = true by simpa using e, if_pos rfl, List.filter_eq_nil_iff.2 none]; rfl
    · rw [show (tn n turn y == x) = false by simpa using e, if_neg (by exact Bool.false_ne_true), Bool.false_or]; exact ih
theorem KB53 : FnOk Try.prog 53 (F53c B53) := ok53c B53 fun l n turn r h => ⟨1001, by
  simp only [B53] at h
  split at h
  · rename_i hk
    obtain ⟨hn, ht, hp⟩ := hk
    obtain ⟨_, ha, hl, _⟩ := panE_iff.1 hp
    have hlen := asc_len (lo := 0) (hi := n) (by omega) ha fun x hx => by have := hl x hx; omega
    rw [← h, m53c]
    have main := rangeInv (upto n) 0 (fun m (o : List Int) t => l53ca 1001 l n turn m t o) (fun xs o => o.length + xs.length ≤ 13 ∧ ∃ pre, upto n = pre ++ xs) (fun xs o => some (o ++ xs.filter (fun x => l.any fun y => tn n turn y == x), n, turn))
      (fun m o t x rest ht' hx hI ih => by
        obtain ⟨hI, pre, hpre⟩ := hI
        have hxt : x = (t : Int) := by
          rw [← hx, List.getD_eq_getElem?_getD, List.getElem?_eq_getElem ht']; simp [upto]
        have htn : (t : Int) < n := by have := mem_upto.1 (getD_mem ht' hx); omega
        subst hxt
        have hw : w64 ((t : Int) + 1) = ((t + 1 : Nat) : Int) := w64_succ (by omega)
        simp only [List.length_cons] at hI
        simp only [l53ca, decide_eq_true htn, cond_true]
        have inner := rangeInv l 0 (fun m' (o : List Int) t' => l53cb 1001 l n turn (t : Int) (fun y0 y1 => l53ca 1001 l n turn m y0 y1) m' t' o) (fun xs o => o.length + xs.length ≤ 1000) (fun xs o => l53ca 1001 l n turn m ((t + 1 : Nat) : Int) (o ++ (xs.filter fun y => tn n turn y == (t : Int)).map fun _ => (t : Int)))
          (fun m' o t' y ys ht'' hy hJ ih' => by
            simp only [List.length_cons] at hJ
            have hs : small (o.length + 1) 8 = true := small_of (by omega) (by omega)
            simp only [l53cb, ixA ht'', ixB ht'', cond_true, chk_true, Int.toNat_natCast, hy, decide_eq_true (show n ≠ 0 by omega), hs, ixW ht'' (by omega)]
            rw [List.filter_cons]
            show cond (tn n turn y == (t : Int)) _ _ = _
            cases tn n turn y == (t : Int) with
            | true => rw [cond_true, ih' _ (by simp; omega), if_pos rfl]; simp
            | false => rw [cond_false, ih' _ (by omega), if_neg Bool.false_ne_true])
          (fun m' o _ => by simp only [l53cb, ixE, cond_false, List.filter_nil, List.map_nil, List.append_nil, hw]) 1001 o (by omega) (by omega)
        refine Eq.trans inner ?_
        rw [once hn ht ha hl, ih, List.filter_cons]
        · cases l.any fun y => tn n turn y == (t : Int) <;> simp
        · refine ⟨?_, pre ++ [(t : Int)], by rw [hpre]; simp⟩
          cases l.any fun y => tn n turn y == (t : Int) <;> simp <;> omega)
      (fun m o _ => by
        have e : ((upto n).length : Int) = n := by simp [upto]; omega
        simp only [e, l53ca, decide_eq_false (show ¬ n < n by omega), cond_false, List.filter_nil, List.append_nil]) 1001 [] (by simp [upto]; omega) ⟨by simp [upto]; omega, [], rfl⟩
    refine Eq.trans main ?_
    rw [List.nil_append]; rfl
  · cases h⟩

/-- A weighing with exchanged pans; one with other numbers. -/
def swp (w : Wg) : Wg := (w.2.1, (w.1, ()))
def trn (n turn : Int) (w : Wg) : Wg := (sortS n turn w.1, (sortS n turn w.2.1, ()))
theorem Valid.swp {n : Int} {w : Wg} (h : Valid n w) : Valid n (swp w) :=
  ⟨by have := h.pos; have := h.same; show w.2.1.length ≠ 0; omega, h.same.symm, h.asc2, h.asc1, h.in2, h.in1, fun x h1 h2 => h.apart x h2 h1⟩
theorem Valid.trn {n turn : Int} {w : Wg} (hn : 1 ≤ n ∧ n ≤ 13) (ht : 0 ≤ turn ∧ turn ≤ 255) (h : Valid n w) : Valid n (trn n turn w) := by
  have e1 := sortS_len hn ht h.asc1 h.in1
  have e2 := sortS_len hn ht h.asc2 h.in2
  refine ⟨?_, ?_, sortS_asc .., sortS_asc .., fun x hx => ?_, fun x hx => ?_, fun x h1 h2 => ?_⟩
  · show (sortS n turn w.1).length ≠ 0; rw [e1]; exact h.pos
  · show (sortS n turn w.1).length = (sortS n turn w.2.1).length; rw [e1, e2]; exact h.same
  · have := (mem_sortS.1 hx).1; omega
  · have := (mem_sortS.1 hx).1; omega
  · obtain ⟨_, y, hy, e⟩ := mem_sortS.1 h1
    obtain ⟨_, z, hz, e'⟩ := mem_sortS.1 h2
    have := tn_inj hn ht (h.in2 y hy) (h.in1 z hz) (e.trans e'.symm)
    subst this
    exact h.apart y hy hz
theorem shR_swp {n odd way : Int} {w : Wg} (h : Valid n w) : shR odd way (swp w) = - shR odd way w := by
  unfold shR swp
  cases e2 : w.2.1.contains odd with
  | true =>
    have : w.1.contains odd = false := contains_false.2 (h.apart odd (by rwa [List.contains_iff_mem] at e2))
    rw [this]; rfl
  | false => cases w.1.contains odd <;> simp
theorem shR_neg (odd way : Int) (w : Wg) : shR odd (-way) w = - shR odd way w := by
  unfold shR
  cases w.2.1.contains odd <;> cases w.1.contains odd <;> simp
theorem shR_trn {n turn odd way : Int} {w : Wg} (hn : 1 ≤ n ∧ n ≤ 13) (ht : 0 ≤ turn ∧ turn ≤ 255) (h : Valid n w) (ho : 0 ≤ odd ∧ odd ≤ n - 1) : shR (tn n turn odd) way (trn n turn w) = shR odd way w := by
  unfold shR trn
  rw [sortS_has hn ht h.in2 ho, sortS_has hn ht h.in1 ho]

def wfB' (b : Int × List (List Int) × Unit) : Prop := 0 ≤ b.1 ∧ b.1 ≤ 255
theorem names_law (b : Int × List (List Int) × Unit) (odd turn : Int) (heavy : Bool) (hb : 0 ≤ b.1 ∧ b.1 ≤ 255) (ho : 0 ≤ odd ∧ odd ≤ 255) (ht : 0 ≤ turn ∧ turn ≤ 255) : m14 (some true) Beq B33 B48 B53 1001 b odd turn heavy = some true := by
  obtain ⟨p, e48, h2, h3⟩ := made_ok b hb
  have hnS := nS_bound hb
  generalize nS b = n at e48 h3 hnS
  have hn : 1 ≤ n ∧ n ≤ 13 := by omega
  have V : VPlan n p := ⟨hn.1, hn.2, h2, h3⟩
  have V2 : VPlan n (p.map swp) := ⟨hn.1, hn.2, by simpa using h2, fun w hw => by
    obtain ⟨v, hv, rfl⟩ := List.mem_map.1 hw
    exact (h3 v hv).swp⟩
  have V3 : VPlan n (p.map (trn n turn)) := ⟨hn.1, hn.2, by simpa using h2, fun w hw => by
    obtain ⟨v, hv, rfl⟩ := List.mem_map.1 hw
    exact (h3 v hv).trn hn ht⟩
  have main : ∀ way : Int, -1 ≤ way ∧ way ≤ 1 → l14a (some true) Beq B33 B48 B53 1001 odd (n, p) 1001 way 0 [] [] turn n = some true := by
    intro way hway
    have hs1 : w64 odd = odd := w64_small (by omega)
    have hs2 : Int.tmod odd n = odd % n := Int.tmod_eq_emod_of_nonneg ho.1
    have hs3 := Int.emod_nonneg odd (show n ≠ 0 by omega)
    have hs4 := Int.emod_lt_of_pos odd (show 0 < n by omega)
    have hso : 0 ≤ odd % n ∧ odd % n ≤ n - 1 := by omega
    have hti := tn_in (turn := turn) hn ht hso
    obtain ⟨E, hE⟩ : ∃ E : List Wg → List Wg → Option Bool, ∀ m a c, l14a (some true) Beq B33 B48 B53 1001 odd (n, p) (m + 1) way (p.length : Int) a c turn n = E a c :=
      ⟨fun a c => l14a (some true) Beq B33 B48 B53 1001 odd (n, p) 1 way (p.length : Int) a c turn n, fun m a c => by simp only [l14a, ixE, cond_false]⟩
    have loop := rangeInv p ([], ([], ())) (fun m (s : List Wg × List Wg) t => l14a (some true) Beq B33 B48 B53 1001 odd (n, p) m way t s.1 s.2 turn n) (fun xs s => s.1.length + xs.length ≤ 3 ∧ s.2.length + xs.length ≤ 3 ∧ ∀ w ∈ xs, w ∈ p)
      (fun xs s => E (s.1 ++ xs.map swp) (s.2 ++ xs.map (trn n turn)))
      (fun m s t x rest ht' hx hI ih => by
        obtain ⟨i1, i2, i3⟩ := hI
        simp only [List.length_cons] at i1 i2
        have hxv := h3 x (i3 x (List.mem_cons_self ..))
        have hz := wgE_zero (valid_iff.2 hxv)
        have s1 : small (s.1.length + 1) 48 = true := small_of (by omega) (by omega)
        have s2 : small (s.2.length + 1) 48 = true := small_of (by omega) (by omega)
        have f1 : B53 x.1 n turn = some (sortS n turn x.1, n, turn) := if_pos ⟨hn, ht, hz.2.2.1⟩
        have f2 : B53 x.2.1 n turn = some (sortS n turn x.2.1, n, turn) := if_pos ⟨hn, ht, panE_iff.2 ⟨fun y hy => by have := hxv.in2 y hy; omega, hxv.asc2, hxv.in2, fun y hy => rfl⟩⟩
        simp only [l14a, ixA ht', ixB ht', cond_true, chk_true, Int.toNat_natCast, hx, s1, s2, f1, f2, Option.bind_some, ixW ht' (by omega)]
        have := ih (s.1 ++ [swp x], s.2 ++ [trn n turn x]) ⟨by simp; omega, by simp; omega, fun w hw => i3 w (List.mem_cons_of_mem _ hw)⟩
        refine Eq.trans this ?_
        simp)
      (fun m s hI => by simp only [hE, List.map_nil, List.append_nil]) 1001 ([], []) (by omega) ⟨by simpa using h2, by simpa using h2, fun w hw => hw⟩
    refine Eq.trans loop ?_
    rw [← hE 0]
    have hneg : w64 (0 - way) = -way := by rw [w64_small (by omega)]; omega
    have e5 : (p.map swp).map (shR (odd % n) way) = p.map fun w => - shR (odd % n) way w := by
      rw [List.map_map]; exact List.map_congr_left fun w hw => shR_swp (h3 w hw)
    have e6 : p.map (shR (odd % n) (-way)) = p.map fun w => - shR (odd % n) way w := List.map_congr_left fun w _ => shR_neg ..
    have e7 : (p.map (trn n turn)).map (shR (tn n turn (odd % n)) way) = p.map (shR (odd % n) way) := by
      rw [List.map_map]; exact List.map_congr_left fun w hw => shR_trn hn ht (h3 w hw) hso
    have htn : Int.tmod (w64 (odd % n + w64 turn)) n = tn n turn (odd % n) := rfl
    simp only [l14a, ixE, cond_false, List.nil_append, hs1, hs2, V.shows hso hway, V2.shows hso hway, hneg, V.shows hso (show -1 ≤ -way ∧ -way ≤ 1 by omega), decide_eq_true (show n ≠ 0 by omega), chk_true, htn, V3.shows hti hway, Option.bind_some, e5, e6, e7, bne_self_eq_false]
    rw [Beq, if_pos (by simp; omega), decide_eq_true rfl, Option.bind_some, Beq, if_pos (by simp; omega), decide_eq_true rfl, Option.bind_some]
    simp only [Bool.not_true, cond_false, List.length_map, bne_self_eq_false]
    have fin := rangeIx (p.map (shR (odd % n) way)) 0 (fun m (_ : Unit) t => l14b (some true) Beq B33 B48 B53 1001 (p.map (shR (odd % n) way), 0) (p.map (fun w => - shR (odd % n) way w), 0) m t) (fun _ _ _ => True) (fun _ _ _ => some true)
      (fun m _ t x rest ht' hx _ ih => by
        have hlen : t < (p.map (fun w => - shR (odd % n) way w)).length := by simpa using ht'
        have hg : (p.map (fun w => - shR (odd % n) way w)).getD t 0 = - x := by
          have hp : t < p.length := by simpa using ht'
          rw [← hx, List.getD_eq_getElem?_getD, List.getD_eq_getElem?_getD, List.getElem?_map, List.getElem?_map, List.getElem?_eq_getElem hp]; rfl
        have hx1 : x = 1 ∨ x = 0 ∨ x = -1 := by
          obtain ⟨w, _, hw⟩ := List.mem_map.1 (getD_mem ht' hx)
          rw [← hw]; exact shR_way hway w
        have hx2 : w64 (0 - -x) = x := by rw [w64_small (by omega)]; omega
        simp only [l14b, ixA ht', ixB ht', ixB hlen, cond_true, chk_true, Int.toNat_natCast, hx, hg, hx2, bne_self_eq_false, cond_false, ixW ht' (by simp; omega)]
        exact ih () trivial)
      (fun m _ _ => by simp only [l14b, ixE, cond_false]; rfl) 1001 () (by simp; omega) trivial
    exact fin
  rw [m14, show B48 b = some (n, p) from e48, Option.bind_some, decide_eq_true (show n ≠ 0 by omega), chk_true]
  cases heavy with
  | true => exact main 1 (by omega)
  | false => exact main (-1) (by omega)
theorem KB14 (b : Int × List (List Int) × Unit) (odd turn : Int) (heavy : Bool) (hb : 0 ≤ b.1 ∧ b.1 ≤ 255) (ho : 0 ≤ odd ∧ odd ≤ 255) (ht : 0 ≤ turn ∧ turn ≤ 255) :
    FnOk Try.prog 14 (F14 fun c o t v => if c = b ∧ o = odd ∧ t = turn then some true else none) :=
  ok14 (some true) Beq B33 B48 B53 K16t KB21 KB33 KB48 KB53 _ fun c o t v r h => ⟨1001, by
    split at h
    · rename_i hc
      rw [← h, hc.1, hc.2.1, hc.2.2]; exact names_law b odd turn v hb ho ht
    · cases h⟩
end Go.Proofs.Ytjcgjbdlgmbepaa
