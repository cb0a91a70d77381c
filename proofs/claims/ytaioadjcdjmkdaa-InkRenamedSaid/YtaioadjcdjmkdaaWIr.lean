/-
  The law InkRenamed returns true and turns nothing that was there.
-/
import Derived.Test.YtaioadjcdjmkdaaJ15
import Derived.Test.YtaioadjcdjmkdaaQM13
import Derived.Test.YtaioadjcdjmkdaaRows
import Derived.Test.YtaioadjcdjmkdaaEN
import Derived.WalkKit
import Derived.ProofKit
import Derived.OpenShut
import Derived.ChangeOld
import Derived.Below
namespace Go.Proofs.Ytaioadjcdjmkdaa.inkRenamed
open Go.RowKit Go.ChangeShapes Go.WideShapes Go.ChangeAt
set_option linter.unusedVariables false
theorem mkP_small (e : Pal) : (mkP e).2.1.length ≤ 3 ∧ (mkP e).1.toNat ≤ 5 := by
  rw [mkP_n]
  refine ⟨?_, by unfold mkN; omega⟩
  show (mkInks e).length ≤ 3
  unfold mkInks
  split
  · simp
  · simp only [List.length_map, List.length_take]; omega
theorem wo_perm2 {M : List Int} {t : Nat} (h : t < M.length) : (M.getD t 0 :: (M.take t ++ M.drop (t + 1))).Perm M := by
  conv => rhs; rw [← List.take_append_drop t M, drop_at (d := 0) h]
  exact List.perm_middle.symm
def B13 (e : Pal) (by_ order : List Int) (turn : Int) : Option Bool := if okE e = true ∧ okB by_ = true ∧ (order.length = 4 ∧ okB order = true) ∧ 0 ≤ turn ∧ turn < 256 then some true else none
theorem KB13 : FnOk Try.prog 13 (F13 B13) := ok13 (some true) B17 B35 B41 B42 B49 K16t KB17 KB35 KB41 KB42 KB49 B13 fun e by_ order turn r h => by
  simp only [B13] at h
  split at h
  · rename_i hf
    obtain ⟨he, hb, ⟨ho4, ho⟩, ht0, ht1⟩ := hf
    have hb' : ∀ b ∈ by_, 0 ≤ b ∧ b < 256 := by simpa [okB] using hb
    have ho' : ∀ b ∈ order, 0 ≤ b ∧ b < 256 := by simpa [okB] using ho
    obtain ⟨N, hN⟩ : ∃ N, 1000 < N := ⟨1001, by omega⟩
    refine ⟨N, ?_⟩
    have e42 := B42_ok (e := e) hb' (k := 8) (by omega)
    have hp := mkP_ok e
    have hsm := mkP_small e
    rw [← h, m13]
    rw [show ((8 : Nat) : Int) = 8 from rfl] at e42
    rw [B41, if_pos he, Option.bind_some]
    obtain ⟨hs, hl8⟩ := sqB_ok hp by_ 8
    generalize sqB (mkP e) by_ 8 = l at *
    generalize mkP e = p at *
    obtain ⟨n2, n7, hn⟩ := nat7 hp
    have h7 := pow_le7 n7
    have hm1 := hp.i1
    obtain ⟨tu, rfl⟩ : ∃ z : Nat, turn = z := ⟨turn.toNat, by omega⟩
    have c4 : decide ((p.2.1.length : Int) ≠ 0) = true := decide_eq_true (by omega)
    have wt : w64 (tu : Int) = tu := w64_small (by omega)
    have tm : ∀ i : Nat, i < p.2.1.length → Int.tmod (w64 ((i : Int) + (tu : Int))) (p.2.1.length : Int) = (((i + tu) % p.2.1.length : Nat) : Int) := fun i hi => by
      rw [w64_small (by omega), show (i : Int) + (tu : Int) = ((i + tu : Nat) : Int) by omega]; exact tmod_nat ..
    have iml : ∀ i : Nat, (i + tu) % p.2.1.length < p.2.1.length := fun i => Nat.mod_lt _ (by omega)
    -- stones
    have eG : ∀ (to_ : List Int) (o : List (List Int)), Ren p (p.1, o, ()) (fun c => (to_.getD c 0).toNat) (fun i => (i + tu) % p.2.1.length) → to_.length = p.1.toNat → (∀ c, c < p.1.toNat → 0 ≤ to_.getD c 0) →
        l13g (some true) B17 B35 B41 B42 B49 N p to_ o N 0 = some true := fun to_ o hR htl hnn => by
      exact countUp 0 p.1 (by omega) (fun n (_ : Unit) t => l13g (some true) B17 B35 B41 B42 B49 N p to_ o n t) (fun _ _ => True) (fun _ _ => some true)
        (fun n _ t h1 h2 _ ih => by
          obtain ⟨c, rfl⟩ : ∃ c : Nat, t = c := ⟨t.toNat, by omega⟩
          have hcn : c < p.1.toNat := by omega
          have hnc := hnn c hcn
          have hl := hR.tlt c hcn
          obtain ⟨z, hz⟩ : ∃ z : Nat, to_.getD c 0 = z := ⟨(to_.getD c 0).toNat, by omega⟩
          have hst := hR.stones hp hcn
          simp only [hz, Int.toNat_natCast] at hst hl
          have e1 := B35_ok hp hcn
          have e2 : B35 (p.1, o, ()) (z : Int) = _ := B35_ok hR.ok (c := z) (by show z < p.1.toNat; exact hl)
          have q1 := congrArg (·.1) hst
          have q2 := congrArg (·.2) hst
          simp only at q1 q2
          have i1 : decide (0 ≤ (c : Int) ∧ (c : Int) < (to_.length : Int)) = true := decide_eq_true (by omega)
          simp only [l13g, decide_eq_true h2, cond_true, e1, e2, Option.bind_some, i1, chk_true, Int.toNat_natCast, hz, q1, q2, bne_self_eq_false, cond_false, w64_small (show -4611686018427387904 ≤ (c : Int) + 1 ∧ (c : Int) + 1 ≤ 4611686018427387904 by omega), ih () trivial])
        (fun n _ _ => by simp only [l13g, decide_eq_false (by omega : ¬ p.1 < p.1), cond_false, Option.bind_some]) N () (by omega) trivial
    -- what is given
    have eE : ∀ (to_ : List Int) (o : List (List Int)), Ren p (p.1, o, ()) (fun c => (to_.getD c 0).toNat) (fun i => (i + tu) % p.2.1.length) → to_.length = p.1.toNat → (∀ c, c < p.1.toNat → 0 ≤ to_.getD c 0) →
        l13e (some true) B17 B35 B41 B42 B49 N (tu : Int) p to_ o l N 0 [] = some true := fun to_ o hR htl hnn => by
      have hsq := hR.seq hs
      have bA := B17_ok hp hs (by omega)
      have bM := B17_ok hR.ok hsq (by simp [mvI]; omega)
      have hlen := hR.len hp hs
      have hg := giv_lt hp hs
      have hcl := colsI_len (givI p l)
      have hcl2 := colsI_len (givI (p.1, o, ()) (mvI (fun i => (i + tu) % p.2.1.length) l))
      have f : l13f (some true) B17 B35 B41 B42 B49 N p to_ o (colsI (givI p l), 0) (colsI (givI (p.1, o, ()) (mvI (fun i => (i + tu) % p.2.1.length) l)), 0) N 0 = some true := by
        exact rangeInv (colsI (givI p l)) 0 (fun n (_ : Unit) t => l13f (some true) B17 B35 B41 B42 B49 N p to_ o (colsI (givI p l), 0) (colsI (givI (p.1, o, ()) (mvI (fun i => (i + tu) % p.2.1.length) l)), 0) n t) (fun xs _ => ∀ x ∈ xs, x ∈ colsI (givI p l)) (fun _ _ => some true)
          (fun n _ t x rest ht hx hI ih => by
            obtain ⟨c, rfl, hc7, hcb⟩ := colsI_nat (hI x (by simp))
            have hcn := lt_bit hg.2 hcb
            have hnc := hnn c hcn
            have hl := hR.tlt c hcn
            have i1 : decide (0 ≤ (c : Int) ∧ (c : Int) < (to_.length : Int)) = true := decide_eq_true (by omega)
            have e49 : B49 [to_.getD c 0] (colsI (givI (p.1, o, ()) (mvI (fun i => (i + tu) % p.2.1.length) l))) = some true := by
              rw [B49, if_pos ⟨by simp, by omega⟩]
              congr 1
              simp only [List.all_cons, List.all_nil, Bool.and_true]
              refine List.contains_iff_mem.2 ?_
              have := hR.giv hp hs hcn
              rw [hcb] at this
              have hm := colsI_mem.2 ⟨by omega, this⟩
              rw [Int.toNat_of_nonneg hnc] at hm; exact hm
            simp only [l13f, ixA ht, ixB ht, cond_true, chk_true, Int.toNat_natCast, hx, decide_eq_false (by omega : ¬ (c : Int) < 0), decide_eq_false (by omega : ¬ (c : Int) ≥ p.1), cond_false, i1, e49, Option.bind_some, Bool.not_true, ixW ht (by omega), ih () (fun y hy => hI y (by simp [hy]))])
          (fun n _ _ => by simp only [l13f, ixE, cond_false, eG to_ o hR htl hnn]) N () (by omega) (fun x hx => hx)
      have main := rangeInv l 0 (fun n (mv : List Int) t => l13e (some true) B17 B35 B41 B42 B49 N (tu : Int) p to_ o l n t mv) (fun xs mv => mv ++ mvI (fun i => (i + tu) % p.2.1.length) xs = mvI (fun i => (i + tu) % p.2.1.length) l ∧ SeqOk p xs) (fun _ _ => some true)
        (fun n mv t x rest ht hx hI ih => by
          have hx1 := hI.2 x (by simp)
          obtain ⟨z, rfl⟩ : ∃ z : Nat, x = z := ⟨x.toNat, by omega⟩
          have hml : mv.length ≤ 8 := by
            have := congrArg List.length hI.1
            simp [mvI] at this; omega
          simp only [l13e, ixA ht, ixB ht, cond_true, chk_true, c4, chk_of (small_of (n := mv.length + 1) (eb := 8) (by omega) (by decide)), Int.toNat_natCast, hx, wt, tm z (by omega), ixW ht (by omega)]
          refine ih _ ⟨?_, fun y hy => hI.2 y (by simp [hy])⟩
          rw [← hI.1]; simp [mvI])
        (fun n mv hI => by
          have e : mv = mvI (fun i => (i + tu) % p.2.1.length) l := by have := hI.1; simpa [mvI] using this
          subst e
          have hb2 : (((colsI (givI p l)).length : Int) != ((colsI (givI (p.1, o, ()) (mvI (fun i => (i + tu) % p.2.1.length) l))).length : Int)) = false := by rw [bne_eq_false_iff_eq, hlen]
          simp only [l13e, ixE, cond_false, bA, bM, Option.bind_some, bne_self_eq_false, hb2, f]) N [] (by omega) ⟨rfl, hs⟩
      exact main
    -- the inks
    have eC : ∀ (to_ : List Int), to_.Perm ((List.range p.1.toNat).map fun (c : Nat) => (c : Int)) → to_.getD 0 0 = 0 → l13c (some true) B17 B35 B41 B42 B49 N by_ (tu : Int) p to_ N 0 (List.replicate ((p.2.1.length : Int)).toNat []) = some true := fun to_ hP h0 => by
      have htl : to_.length = p.1.toNat := by rw [hP.length_eq]; simp
      have hto : ∀ c, c < p.1.toNat → ∃ z : Nat, to_.getD c 0 = z ∧ z < p.1.toNat := fun c hc => by
        have := hP.mem_iff.1 (getD_mem (d := 0) (show c < to_.length by omega))
        simp only [List.mem_map, List.mem_range] at this
        obtain ⟨z, h1, h2⟩ := this
        exact ⟨z, h2.symm, h1⟩
      have hnd : to_.Nodup := hP.nodup_iff.2 (List.nodup_iff_pairwise_ne.2 (List.pairwise_map.2 ((List.nodup_iff_pairwise_ne.1 List.nodup_range).imp fun h e => h (by omega))))
      have hinj : ∀ c d, c < p.1.toNat → d < p.1.toNat → to_.getD c 0 = to_.getD d 0 → c = d := fun c d hc hd e => by
        rw [List.getD_eq_getElem?_getD, List.getD_eq_getElem?_getD, List.getElem?_eq_getElem (by omega : c < to_.length), List.getElem?_eq_getElem (by omega : d < to_.length)] at e
        rcases Nat.lt_trichotomy c d with hlt | heq | hgt
        · exact absurd e (List.pairwise_iff_getElem.1 hnd c d (by omega) (by omega) hlt)
        · exact heq
        · exact absurd e.symm (List.pairwise_iff_getElem.1 hnd d c (by omega) (by omega) hgt)
      have hsur : ∀ d, d < p.1.toNat → ∃ c, c < p.1.toNat ∧ to_.getD c 0 = (d : Int) := fun d hd => by
        have : (d : Int) ∈ to_ := hP.mem_iff.2 (List.mem_map.2 ⟨d, List.mem_range.2 hd, rfl⟩)
        obtain ⟨c, hc, e⟩ := List.getElem_of_mem this
        exact ⟨c, by omega, by rw [List.getD_eq_getElem?_getD, List.getElem?_eq_getElem hc]; exact e⟩
      -- one ink
      have one : ∀ (i : Nat) (k : List Int) (o : List (List Int)) (rec : Int → List (List Int) → Option Bool), i < p.2.1.length → p.2.1.getD i [] = k → o.length = p.2.1.length → 
          (∀ o' : List Int, o'.length = p.1.toNat → (∀ c, c < p.1.toNat → o'.getD (to_.getD c 0).toNat 0 = to_.getD (k.getD c 0).toNat 0) → rec ((i + 1 : Nat) : Int) (o.set ((i + tu) % p.2.1.length) o') = some true) →
          l13d (some true) B17 B35 B41 B42 B49 N by_ (tu : Int) p to_ (i : Int) o rec N 0 (List.replicate p.1.toNat 0) = some true := fun i k o rec hi hk hol hrec => by
        have hik : InkOk p.1.toNat k := by rw [← hk]; exact hp.ink _ (getD_mem hi)
        exact rangeIx k 0 (fun n (o' : List Int) t => l13d (some true) B17 B35 B41 B42 B49 N by_ (tu : Int) p to_ (i : Int) o rec n t o') (fun t xs o' => o'.length = p.1.toNat ∧ ∀ c, c < t → o'.getD (to_.getD c 0).toNat 0 = to_.getD (k.getD c 0).toNat 0) (fun _ _ _ => some true)
          (fun n o' t x rest ht hx hI ih => by
            have htn : t < p.1.toNat := by rw [← hik.1]; exact ht
            have hxx := hik.2 x (by rw [← hx]; exact getD_mem ht)
            obtain ⟨z, hz, hzn⟩ := hto t htn
            have i1 : decide (0 ≤ (t : Int) ∧ (t : Int) < (to_.length : Int)) = true := decide_eq_true (by omega)
            have i2 : decide (0 ≤ x ∧ x < (to_.length : Int)) = true := decide_eq_true (by omega)
            have i3 : decide (0 ≤ (z : Int) ∧ (z : Int) < (o'.length : Int)) = true := decide_eq_true (by omega)
            simp only [l13d, Int.toNat_natCast, hk, ixA ht, ixB ht, cond_true, chk_true, hx, i1, i2, hz, i3, ixW ht (by rw [hik.1]; omega)]
            refine ih _ ⟨by rw [List.length_set]; exact hI.1, fun c hc => ?_⟩
            rw [getD_set']
            by_cases e : c = t
            · subst e; rw [hz, Int.toNat_natCast, if_pos ⟨rfl, by omega⟩, hx]
            · obtain ⟨y, hy, hyn⟩ := hto c (by omega)
              rw [hy, Int.toNat_natCast, if_neg (fun hh => e (hinj c t (by omega) htn (by rw [hy, hz, hh.1])))]
              have := hI.2 c (by omega)
              rw [hy, Int.toNat_natCast] at this; exact this)
          (fun n o' hI => by
            have i3 : decide (0 ≤ (((i + tu) % p.2.1.length : Nat) : Int) ∧ (((i + tu) % p.2.1.length : Nat) : Int) < (o.length : Int)) = true := decide_eq_true (by have := iml i; omega)
            simp only [l13d, Int.toNat_natCast, hk, ixE, cond_false, c4, chk_true, wt, tm i hi, i3, ixW hi (by omega)]
            exact hrec o' hI.1 (fun c hc => hI.2 c (by rw [hik.1]; exact hc))) N _ (by rw [hik.1]; omega) ⟨by simp, fun c hc => by omega⟩
      have mk2 : mkOk p.1 p.1 8 = true := by simp only [mkOk, Bool.and_eq_true, decide_eq_true_eq]; omega
      have te : ∀ i j, i < p.2.1.length → j < p.2.1.length → (i + tu) % p.2.1.length = (j + tu) % p.2.1.length → i = j := fun i j hi hj e => by
        have hr : tu % p.2.1.length < p.2.1.length := Nat.mod_lt _ (by omega)
        rw [turn_eq (by omega) tu hi, turn_eq (by omega) tu hj] at e
        split at e <;> split at e <;> omega
      exact rangeIx p.2.1 [] (fun n (o : List (List Int)) t => l13c (some true) B17 B35 B41 B42 B49 N by_ (tu : Int) p to_ n t o) (fun t xs o => o.length = p.2.1.length ∧ ∀ i, i < t → (o.getD ((i + tu) % p.2.1.length) []).length = p.1.toNat ∧ ∀ c, c < p.1.toNat → (o.getD ((i + tu) % p.2.1.length) []).getD (to_.getD c 0).toNat 0 = to_.getD ((p.2.1.getD i []).getD c 0).toNat 0) (fun _ _ _ => some true)
        (fun n o t k rest ht hk hI ih => by
          obtain ⟨i1, i2⟩ := hI
          simp only [l13c, ixA ht, ixB ht, cond_true, chk_true, mk2]
          refine one t k o _ ht hk i1 fun o' ho1 ho2 => ih _ ⟨by simp [i1], fun i hi => ?_⟩
          have ge : ∀ j, (o.set ((t + tu) % p.2.1.length) o').getD j [] = if (t + tu) % p.2.1.length = j then o' else o.getD j [] := fun j => by
            rw [getD_set']
            by_cases e : (t + tu) % p.2.1.length = j
            · rw [if_pos ⟨e, by rw [i1]; exact iml t⟩, if_pos e]
            · rw [if_neg (fun hh => e hh.1), if_neg e]
          rw [ge]
          by_cases e : i = t
          · subst e; rw [if_pos rfl]; exact ⟨ho1, fun c hc => by rw [ho2 c hc, hk]⟩
          · rw [if_neg (fun hh => e (te i t (by omega) ht hh.symm))]
            exact i2 i (by omega))
        (fun n o hI => by
          obtain ⟨i1, i2⟩ := hI
          have isur : ∀ j, j < p.2.1.length → ∃ i, i < p.2.1.length ∧ (i + tu) % p.2.1.length = j := fun j hj => by
            have hr : tu % p.2.1.length < p.2.1.length := Nat.mod_lt _ (by omega)
            by_cases hjr : tu % p.2.1.length ≤ j
            · exact ⟨j - tu % p.2.1.length, by omega, by rw [turn_eq (by omega) tu (by omega), if_pos (by omega)]; omega⟩
            · exact ⟨j + p.2.1.length - tu % p.2.1.length, by omega, by rw [turn_eq (by omega) tu (by omega), if_neg (by omega)]; omega⟩
          have hR : Ren p (p.1, o, ()) (fun c => (to_.getD c 0).toNat) (fun i => (i + tu) % p.2.1.length) := by
            refine ⟨rfl, i1, fun c hc => ?_, fun c d hc hd e => ?_, fun d hd => ?_, by simp only [h0]; rfl, fun i _ => iml i, isur, fun i hi c hc => ?_, ⟨hp.n2, hp.n7, by show 1 ≤ o.length; omega, by show o.length ≤ 6; have := hp.i6; omega, fun k hk => ?_⟩⟩
            · obtain ⟨z, h1, h2⟩ := hto c hc; simp only [h1, Int.toNat_natCast]; exact h2
            · obtain ⟨z, h1, h2⟩ := hto c hc
              obtain ⟨y, h3, h4⟩ := hto d hd
              simp only [h1, h3, Int.toNat_natCast] at e
              exact hinj c d hc hd (by rw [h1, h3, e])
            · obtain ⟨c, h1, h2⟩ := hsur d hd
              exact ⟨c, h1, by simp only [h2, Int.toNat_natCast]⟩
            · have hke := (hp.ink _ (getD_mem (d := []) hi)).at hc
              obtain ⟨z, h1, h2⟩ := hto ((p.2.1.getD i []).getD c 0).toNat (by omega)
              show (o.getD ((i + tu) % p.2.1.length) []).getD (to_.getD c 0).toNat 0 = _
              rw [(i2 i hi).2 c hc]
              simp only [h1, Int.toNat_natCast]
            · obtain ⟨j, hj, e⟩ := List.getElem_of_mem hk
              obtain ⟨i, hi, e2⟩ := isur j (by rw [← i1]; exact hj)
              have hke : o.getD ((i + tu) % p.2.1.length) [] = k := by rw [e2, List.getD_eq_getElem?_getD, List.getElem?_eq_getElem hj]; exact e
              obtain ⟨j1, j2⟩ := i2 i hi
              rw [hke] at j1 j2
              refine ⟨j1, fun y hy => ?_⟩
              obtain ⟨d, hd, e3⟩ := List.getElem_of_mem hy
              obtain ⟨c, hc, e4⟩ := hsur d (by omega)
              have := j2 c hc
              rw [e4, Int.toNat_natCast, List.getD_eq_getElem?_getD, List.getElem?_eq_getElem hd] at this
              have hki := (hp.ink _ (getD_mem (d := []) hi)).at hc
              obtain ⟨z, h1, h2⟩ := hto ((p.2.1.getD i []).getD c 0).toNat (by omega)
              rw [h1] at this
              have e5 : y = (z : Int) := by rw [← e3]; exact this
              show 0 ≤ y ∧ y < (p.1.toNat : Int)
              omega
          simp only [l13c, ixE, cond_false, e42, Option.bind_some]
          exact eE to_ o hR htl (fun c hc => by obtain ⟨z, h1, _⟩ := hto c hc; omega)) N _ (by omega) ⟨by simp, fun i hi => by omega⟩
    -- the order
    have mk1 : mkOk (p.2.1.length : Int) (p.2.1.length : Int) 24 = true := by simp only [mkOk, Bool.and_eq_true, decide_eq_true_eq]; omega
    have eB : ∀ (j k n : Nat) (to_ left : List Int), left.length = j → k + j + 1 = p.1.toNat → j < n → (to_ ++ left).Perm ((List.range p.1.toNat).map fun (c : Nat) => (c : Int)) → to_.getD 0 0 = 0 → 0 < to_.length → l13b (some true) B17 B35 B41 B42 B49 N by_ order (tu : Int) p n (k : Int) to_ left = some true := by
      intro j
      induction j with
      | zero =>
        intro k n to_ left h1 h2 h3 h4 h5 h6
        obtain ⟨n, rfl⟩ : ∃ q, n = q + 1 := ⟨n - 1, by omega⟩
        obtain rfl := List.eq_nil_of_length_eq_zero h1
        rw [List.append_nil] at h4
        simp only [l13b, List.length_nil, show decide (((0 : Nat) : Int) > 0) = false from rfl, cond_false, mk1, chk_true]
        exact eC to_ h4 h5
      | succ j ih =>
        intro k n to_ left h1 h2 h3 h4 h5 h6
        obtain ⟨n, rfl⟩ : ∃ q, n = q + 1 := ⟨n - 1, by omega⟩
        have htl : to_.length + left.length = p.1.toNat := by
          have := h4.length_eq; simp at this; omega
        have hv := ho' _ (getD_mem (d := 0) (show k < order.length by omega))
        obtain ⟨z, hz⟩ : ∃ z : Nat, order.getD k 0 = z := ⟨(order.getD k 0).toNat, by omega⟩
        have hzm : z % left.length < left.length := Nat.mod_lt _ (by omega)
        have e1 : Int.tmod (w64 (z : Int)) (left.length : Int) = ((z % left.length : Nat) : Int) := by rw [w64_small (by omega)]; exact tmod_nat ..
        generalize z % left.length = i at *
        have d0 : decide ((left.length : Int) > 0) = true := decide_eq_true (by omega)
        have d1 : decide (0 ≤ (k : Int) ∧ (k : Int) < 4) = true := decide_eq_true (by omega)
        have d2 : decide ((left.length : Int) ≠ 0) = true := decide_eq_true (by omega)
        have d3 : decide (0 ≤ (i : Int) ∧ (i : Int) ≤ (left.length : Int)) = true := decide_eq_true (by omega)
        have d4 : decide (0 ≤ ((i + 1 : Nat) : Int) ∧ ((i + 1 : Nat) : Int) ≤ (left.length : Int)) = true := decide_eq_true (by omega)
        have d5 : small (0 + (left.take i).length) 8 = true := small_of (by simp; omega) (by decide)
        have d6 : small ((left.take i).length + (left.drop (i + 1)).length) 8 = true := small_of (by simp; omega) (by decide)
        have d7 : small (to_.length + 1) 8 = true := small_of (by omega) (by decide)
        have w1 : w64 ((i : Int) + 1) = ((i + 1 : Nat) : Int) := w64_succ (by omega)
        have w2 : w64 ((k : Int) + 1) = ((k + 1 : Nat) : Int) := w64_succ (by omega)
        simp only [l13b, d0, d1, d2, cond_true, chk_true, Int.toNat_natCast, hz, e1, ixB hzm, d3, d7, List.drop_zero, List.take_length, List.nil_append, w1, w2, d4, d5, d6]
        refine ih (k + 1) n _ _ ?_ (by omega) (by omega) ?_ ?_ (by simp)
        · simp only [List.length_append, List.length_take, List.length_drop]; omega
        · refine List.Perm.trans ?_ h4
          rw [List.append_assoc]
          exact List.Perm.append_left to_ (wo_perm2 hzm)
        · rw [List.getD_eq_getElem?_getD, List.getElem?_append_left h6, ← List.getD_eq_getElem?_getD]; exact h5
    exact countUp 1 p.1 (by omega) (fun n (left : List Int) t => l13a (some true) B17 B35 B41 B42 B49 N by_ order (tu : Int) p n t left) (fun t left => left = (List.range' 1 (t.toNat - 1)).map fun (c : Nat) => (c : Int)) (fun _ _ => some true)
      (fun n left t h1 h2 hI ih => by
        have hll : left.length = t.toNat - 1 := by rw [hI]; simp
        simp only [l13a, decide_eq_true h2, cond_true, chk_of (small_of (n := left.length + 1) (eb := 8) (by omega) (by decide)), w64_small (show -4611686018427387904 ≤ t + 1 ∧ t + 1 ≤ 4611686018427387904 by omega)]
        refine ih _ ?_
        rw [hI, show (t + 1).toNat - 1 = (t.toNat - 1) + 1 by omega, List.range'_concat, List.map_append]
        simp; omega)
      (fun n left hI => by
        simp only [l13a, decide_eq_false (by omega : ¬ p.1 < p.1), cond_false]
        have hll : left.length = p.1.toNat - 1 := by rw [hI]; simp
        refine eB left.length 0 N [0] left rfl (by omega) (by omega) ?_ rfl (by simp)
        rw [hI]
        have : List.range p.1.toNat = 0 :: List.range' 1 (p.1.toNat - 1) := by
          rw [List.range_eq_range']
          conv => lhs; rw [show p.1.toNat = (p.1.toNat - 1) + 1 by omega, List.range'_succ]
        rw [this]; exact .refl _) N [] (by omega) rfl
  · cases h

theorem b256 {n : Int} (h : (Lit.int .u8 n).wf = true) : 0 ≤ n ∧ n < 256 := by have := bounds_u8 h; omega
theorem wfE {y : Pal} (h : DT.wf (.pair (.int .u8) (.pair (.sl (.arr 5 (.int .u8))) .unit)) y) : okE y = true := by
  obtain ⟨h1, ⟨_, h2⟩, _⟩ := (show (Lit.int .u8 y.1).wf = true ∧ (y.2.1.length ≤ maxLen ∧ ∀ i, i < y.2.1.length → DT.wf (.arr 5 (.int .u8)) (y.2.1.getD i (DT.dflt (.arr 5 (.int .u8))))) ∧ True from h)
  refine okE_ok.2 ⟨b256 h1, fun l hl => ?_⟩
  obtain ⟨i, hi, rfl⟩ := List.getElem_of_mem hl
  have := h2 i hi
  rw [List.getD_eq_getElem?_getD, List.getElem?_eq_getElem hi] at this
  obtain ⟨a, b⟩ := (show (y.2.1[i]).length = 5 ∧ ∀ j, j < (y.2.1[i]).length → (Lit.int .u8 ((y.2.1[i]).getD j 0)).wf = true from this)
  refine ⟨a, fun x hx => ?_⟩
  obtain ⟨j, hj, rfl⟩ := List.getElem_of_mem hx
  have := b256 (b j hj)
  rw [List.getD_eq_getElem?_getD, List.getElem?_eq_getElem hj] at this
  exact this
theorem okB_of {y : List Int} (h2 : ∀ i, i < y.length → (Lit.int .u8 (y.getD i 0)).wf = true) : okB y = true := by
  simp only [okB, List.all_eq_true, decide_eq_true_eq]
  intro x hx
  obtain ⟨j, hj, rfl⟩ := List.getElem_of_mem hx
  have := b256 (h2 j hj)
  rw [List.getD_eq_getElem?_getD, List.getElem?_eq_getElem hj] at this
  exact this
theorem wfB {y : List Int} (h : DT.wf (.sl (.int .u8)) y) : okB y = true := okB_of (show y.length ≤ maxLen ∧ ∀ i, i < y.length → (Lit.int .u8 (y.getD i 0)).wf = true from h).2
theorem wfA {n : Nat} {y : List Int} (h : DT.wf (.arr n (.int .u8)) y) : y.length = n ∧ okB y = true := by
  obtain ⟨h1, h2⟩ := (show y.length = n ∧ ∀ i, i < y.length → (Lit.int .u8 (y.getD i 0)).wf = true from h)
  exact ⟨h1, okB_of h2⟩
theorem K (y0 : Pal) (y1 : List Int) (y2 : List Int) (y3 : Int) (_ : DT.wf (.pair (.int .u8) (.pair (.sl (.arr 5 (.int .u8))) .unit)) y0) (_ : DT.wf (.sl (.int .u8)) y1) (_ : DT.wf (.arr 4 (.int .u8)) y2) (_ : DT.wf (.int .u8) y3) : FnOk Try.prog 13 (F13 B13) := KB13

set_option maxRecDepth 100000 in
theorem walk (w : World) (vs : List Value) (h : ArgsOk w [.pair (.int .u8) (.pair (.sl (.arr 5 (.int .u8))) .unit), .sl (.int .u8), .arr 4 (.int .u8), .int .u8] vs) : Calls Try.prog 13 vs.toArray w fun e w' => e = .returned (.bool true) ∧ Below w.heap.size w w' := by
  obtain ⟨v0, vs0, y0, rfl, w0, h0, k0⟩ := ArgsOk.cons h
  obtain ⟨v1, vs1, y1, rfl, w1, h1, k1⟩ := ArgsOk.cons k0
  obtain ⟨v2, vs2, y2, rfl, w2, h2, k2⟩ := ArgsOk.cons k1
  obtain ⟨v3, vs3, y3, rfl, w3, h3, k3⟩ := ArgsOk.cons k2
  obtain rfl := ArgsOk.nil k3
  exact walkAll (K y0 y1 y2 y3 w0 w1 w2 w3) (xs := [.dv (.pair (.int .u8) (.pair (.sl (.arr 5 (.int .u8))) .unit)) y0, .dv (.sl (.int .u8)) y1, .dv (.arr 4 (.int .u8)) y2, .dv (.int .u8) y3]) (r := true) (if_pos ⟨wfE w0, wfB w1, wfA w2, b256 w3⟩) rfl (HoldsAll.cons h0 (HoldsAll.cons h1 (HoldsAll.cons h2 (HoldsAll.cons h3 HoldsAll.nil))))

set_option maxRecDepth 100000 in
theorem lifted (os : Os) (started : os.Started) (H : Type) (enc : TypeId × Value → H) :
    ReturnsInHanded {} Try.checked os 13 .any (Rows.inkRenamedSpec.pre6 enc Try.prog Try.f13 Rows.inkRenamedRow.domain false) (Rows.inkRenamedSpec.post enc Try.prog Try.f13 false true false false) :=
  lawShell (fn := Try.f13) (s := Rows.inkRenamedSpec) (tb := 4) [.pair (.int .u8) (.pair (.sl (.arr 5 (.int .u8))) .unit), .sl (.int .u8), .arr 4 (.int .u8), .int .u8] Try.func13 (by kernel_rfl) (by kernel_rfl) (by kernel_rfl) Try.underlying4 (by kernel_rfl) os started H enc Rows.inkRenamedRow.domain
    (fun ds hl => by
      match ds, hl with
      | [d0, d1, d2, d3], _ => rfl)
    (ChangeSpec.witness6 (enc := enc) (C := Try.checked) false ⟨#[], #[.agg #[.int .u8 0, .slice none 0 0], .slice none 0 0, .agg #[.int .u8 0, .int .u8 0, .int .u8 0, .int .u8 0], .int .u8 0], []⟩ 8 (by kernel_rfl) (by kernel_rfl) (by kernel_rfl) (by kernel_rfl)) walk

theorem over : Rows.inkRenamedRow.holds Try.pinned (OpenSpec.ofChange Rows.inkRenamedSpec) :=
  OpenClaim.holds_of_wide 13 Try.f13 rfl rfl rfl rfl rfl rfl rfl ⟨rfl, rfl, rfl, rfl, rfl⟩ rfl rfl rfl rfl rfl (by kernel_rfl) Try.func13 (by kernel_rfl)
    (of_decide_eq_true (by kernel_rfl)) (by unfold Func.isWrapper; first | (rw [if_pos (by decide +kernel)]; kernel_rfl) | (rw [if_neg (by decide +kernel)]; exact ⟨rfl, rfl⟩))
    (fun os started H enc _ => lifted os started H enc)

/-- THE STATEMENT. -/
theorem proved : Rows.InkRenamedSaid := over

end Go.Proofs.Ytaioadjcdjmkdaa.inkRenamed
