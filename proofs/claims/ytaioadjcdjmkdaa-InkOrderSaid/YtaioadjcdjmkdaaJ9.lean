/-
  What the laws without the reference need.
-/
import Derived.Test.YtaioadjcdjmkdaaJ8
namespace Go.Proofs.Ytaioadjcdjmkdaa
open Go.RowKit
set_option linter.unusedVariables false

def cnt (p : Pal) (l : List Int) : Nat := (cols (givI p l)).length
def stp (p : Pal) (s : Int × List Int) (l : List Int) : Int × List Int := cond (decide ((cnt p l : Int) > s.1)) ((cnt p l : Int), l) s
def ordI (p : Pal) (l : List Int) : List Int × Int × Int :=
  if sqE p l 6 = 0 then ((((pm l.length (srt l)).foldl (stp p) (0, [])).2), ((pm l.length (srt l)).foldl (stp p) (0, [])).1, 0) else ([], 0, sqE p l 6)

/-! ### the program -/
theorem KB76 : FnOk Try.prog 76 (F76 fun l => some l) := ok76 (fun l => some l) fun l r h => ⟨0, by rw [← h]; rfl⟩
def B78 (s : Int) : Option Int := if 0 ≤ s ∧ s < 128 then some ((cols s.toNat).length : Int) else none
theorem KB78 : FnOk Try.prog 78 (F78 B78) := ok78 B78 fun s r h => ⟨0, by
  simp only [B78] at h
  split at h
  · rename_i hl
    obtain ⟨s, rfl⟩ : ∃ k : Nat, s = k := ⟨s.toNat, by omega⟩
    have key : ∀ s : Nat, s < 128 → m78 0 (s : Int) = some ((cols s).length : Int) := by decide +kernel
    rw [← h, Int.toNat_natCast]
    exact key s (by omega)
  · cases h⟩
def B79 (o : Option (List Int)) : Option (List Int) := if (o.getD []).length ≤ 1000 then some (o.getD []) else none
theorem KB79 : FnOk Try.prog 79 (F79 B79) := ok79 B79 fun o r h => ⟨0, by
  simp only [B79] at h
  split at h
  · rename_i hl
    rw [← h, m79]
    cases o with
    | none => rfl
    | some l =>
      simp only [Option.getD_some] at hl
      simp only [Option.isNone_some, cond_false, Option.getD_some, List.nil_append, chk_of (small_of (n := 0 + l.length) (eb := 8) (by omega) (by decide))]
  · cases h⟩
def tryI (l left : List Int) (p2 : List Pal) (p3 : Int) (p4 : List Int) : List Pal × Int × List Int :=
  (p2, (((pm left.length left).map (l ++ ·)).foldl (stp (p2.getD 0 dP)) (p3, p4)).1, (((pm left.length left).map (l ++ ·)).foldl (stp (p2.getD 0 dP)) (p3, p4)).2)
def B77 (k : Nat) (l0 : Option (List Int)) (left : List Int) (p2 : List Pal) (p3 : Int) (p4 : List Int) : Option (List Pal × Int × List Int) :=
  if left.length < k ∧ okS (p2.getD 0 dP) (l0.getD [] ++ left) = true then some (tryI (l0.getD []) left p2 p3 p4) else none
theorem wo_mem {l : List Int} {i : Nat} {x : Int} (h : x ∈ wo l i) : x ∈ l := by
  rcases List.mem_append.1 h with h | h
  · exact List.mem_of_mem_take h
  · exact List.mem_of_mem_drop h
theorem B62_wo {l : List Int} {t : Nat} (ht : t < l.length) (hl : l.length ≤ 1000) : B62 [l.take t, l.drop (t + 1)] = some (wo l t) := by
  have := wo_len ht
  have e : ([l.take t, l.drop (t + 1)] : List (List Int)).flatten = wo l t := by simp [wo]
  rw [B62, e, if_pos ⟨by simp, by omega⟩]
theorem KB77 : ∀ k, FnOk Try.prog 77 (F77c (B77 k))
  | 0 => by
    intro args Of x hx
    simp only [F77c] at hx
    split at hx
    · simp only [B77] at hx
      rw [if_neg (fun h => Nat.not_lt_zero _ h.1)] at hx; cases hx
    · cases hx
  | k + 1 => ok77c B56 B62 (B77 k) B78 B79 (fun l => some l) KB56 KB62 (KB77 k) KB78 KB79 KB80' (B77 (k + 1)) fun l0 left p2 p3 p4 r h => ⟨1001, by
    simp only [B77] at h
    split at h
    · rename_i hf
      obtain ⟨hk, hok⟩ := hf
      obtain ⟨hp, hlen, hs⟩ := okS_ok.1 hok
      rw [List.length_append] at hlen
      rw [← h, m77c]
      generalize hl : l0.getD [] = l at *
      generalize hpp : p2.getD 0 dP = p at *
      have hpp' : p2.getD 0 ((0 : Int), ([] : List (List Int)), ()) = p := hpp
      cases left with
      | nil =>
        have hsl : SeqOk p l := fun x hx => hs x (by simp [hx])
        have hg := giv_lt hp hsl
        have h7 := pow_le7 (nat7 hp).2.1
        have e1 : B56 p l = some (givI p l : Int) := by rw [B56, if_pos (okS_ok.2 ⟨hp, by omega, hsl⟩)]
        have e2 : B78 (givI p l : Int) = some (cnt p l : Int) := by rw [B78, if_pos (by omega)]; rfl
        have e3 : B79 l0 = some l := by rw [B79, hl, if_pos (by omega)]
        simp only [List.length_nil, show (((0 : Nat) : Int) == 0) = true from rfl, cond_true, hpp', e1, Option.bind_some, e2, e3, tryI, pm, List.map_cons, List.map_nil, List.append_nil, List.foldl_cons, List.foldl_nil, stp]
        cases decide ((cnt p l : Int) > p3) <;> rfl
      | cons y ys =>
        generalize hleft : y :: ys = left at *
        have hne : 0 < left.length := by rw [← hleft]; simp
        have e0 : ((left.length : Int) == 0) = false := by rw [beq_eq_false_iff_ne]; omega
        obtain ⟨n, hn⟩ : ∃ n, left.length = n + 1 := ⟨left.length - 1, by omega⟩
        rw [e0, cond_false]
        let g : Nat → List (List Int) := fun t => (cond (isNew left t) ((pm n (wo left t)).map ([left.getD t 0] ++ ·)) []).map (l ++ ·)
        have main := rangeIx left 0 (fun m (s : Int × List Int) t => l77ca B56 B62 (B77 k) B78 B79 (fun l => some l) 1001 l0 left m t p2 s.1 s.2) (fun t xs s => t + xs.length = left.length) (fun t xs s => some (p2, (((List.range' t xs.length).flatMap g).foldl (stp p) s).1, (((List.range' t xs.length).flatMap g).foldl (stp p) s).2))
          (fun m s t x rest ht hx hI ih => by
            simp only [List.length_cons] at hI
            have hwl := wo_len ht
            have nx := fun s' => ih s' (by omega)
            have hs2 : SeqOk p ((l ++ [x]) ++ wo left t) := fun z hz => by
              rcases List.mem_append.1 hz with hz | hz
              · rcases List.mem_append.1 hz with hz | hz
                · exact hs z (by simp [hz])
                · simp at hz; subst hz; exact hs _ (List.mem_append.2 (.inr (by rw [← hx]; exact getD_mem ht)))
              · exact hs z (by simp [wo_mem hz])
            have rec1 : B77 k (some (l ++ [x])) (wo left t) p2 s.1 s.2 = some (p2, (((pm n (wo left t)).map ((l ++ [x]) ++ ·)).foldl (stp p) s).1, (((pm n (wo left t)).map ((l ++ [x]) ++ ·)).foldl (stp p) s).2) := by
              have e : (wo left t).length = n := by omega
              rw [B77, Option.getD_some, hpp, if_pos ⟨by omega, okS_ok.2 ⟨hp, by simp only [List.length_append, List.length_cons, List.length_nil]; omega, hs2⟩⟩, tryI, hpp, e]
            have d1 : decide (0 ≤ (t : Int) ∧ (t : Int) ≤ (left.length : Int)) = true := decide_eq_true (by omega)
            have d2 : decide (0 ≤ ((t + 1 : Nat) : Int) ∧ ((t + 1 : Nat) : Int) ≤ (left.length : Int)) = true := decide_eq_true (by omega)
            have d3 : (decide (0 < (l ++ [x]).length) && true) = true := by simp
            have d4 : small (l.length + 1) 8 = true := small_of (by omega) (by decide)
            rw [List.length_cons, List.range'_succ, List.flatMap_cons, List.foldl_append]
            have gt : g t = cond (isNew left t) ((pm n (wo left t)).map ((l ++ [x]) ++ ·)) [] := by
              show (cond (isNew left t) ((pm n (wo left t)).map ([left.getD t 0] ++ ·)) []).map (l ++ ·) = _
              cases isNew left t with
              | false => rfl
              | true =>
                rw [cond_true, cond_true, List.map_map, hx]
                apply List.map_congr_left
                intro q _
                simp
            rw [gt]
            simp only [l77ca, ixA ht, ixB ht, cond_true, chk_true, Int.toNat_natCast, hx, hl, ixW ht (by omega), d1, d2, d3, d4, B62_wo ht (by omega), Option.bind_some, rec1]
            cases t with
            | zero =>
              rw [show (((0 : Nat) : Int) == 0) = true from rfl, cond_true, show isNew left 0 = true from rfl, cond_true]
              exact nx _
            | succ t =>
              have f1 : (((t + 1 : Nat) : Int) == 0) = false := by rw [beq_eq_false_iff_ne]; omega
              have f2 : w64 (((t + 1 : Nat) : Int) - 1) = (t : Int) := by rw [w64_small (by omega)]; omega
              have f3 : decide (0 ≤ (t : Int) ∧ (t : Int) < (left.length : Int)) = true := decide_eq_true (by omega)
              have f4 : isNew left (t + 1) = (left.getD t 0 != x) := by
                simp only [isNew, Nat.add_sub_cancel, hx]; rw [decide_eq_false (by omega), Bool.false_or]
              simp only [f1, cond_false, f2, f3, chk_true, Int.toNat_natCast, f4]
              cases left.getD t 0 != x with
              | true => simp only [cond_true]; exact nx _
              | false => simp only [cond_false, List.foldl_nil]; exact nx _)
          (fun m s hI => by simp only [l77ca, ixE, cond_false]; rfl) 1001 (p3, p4) (by omega) (by simp)
        refine main.trans ?_
        have q : (List.range' 0 left.length).flatMap g = (pm left.length left).map (l ++ ·) := by
          rw [← List.range_eq_range']
          conv => rhs; rw [hn, pm, List.map_flatMap]
        rw [q, tryI, hpp]
    · cases h⟩
where KB80' : FnOk Try.prog 80 (F80 fun l => some l) := ok80 (fun l => some l) fun l r h => ⟨0, by
  rw [← h, m80]
  have : (decide (0 ≤ (l.length : Int) ∧ (l.length : Int) ≤ (l.length : Int)) && decide ((l.length : Int) = (l.length : Int))) = true := by simp
  rw [this, chk_true]; simp⟩

def B39 (p : Pal) (l : List Int) : Option (List Int × Int × Int) := if fitP p = true ∧ l.length ≤ 1000 then some (ordI p l) else none
theorem srt_len (l : List Int) : (srt l).length = l.length := (srt_perm l).length_eq
theorem srt_seq {p : Pal} {l : List Int} (h : SeqOk p l) : SeqOk p (srt l) := fun x hx => h x ((srt_perm l).mem_iff.1 hx)
theorem KB39 : FnOk Try.prog 39 (F39 B39) := ok39 B55 A75 (fun l => some l) (B77 7) KB55 KB75 KB76 (KB77 7) B39 fun p l r h => ⟨0, by
  simp only [B39] at h
  split at h
  · rename_i hf
    rw [← h, m39, B55, if_pos hf, Option.bind_some, ordI]
    by_cases e : sqE p l 6 = 0
    · obtain ⟨hp, hl6, hs⟩ := sq_ok.1 e
      have e' : (sqE p l 6 != 0) = false := by rw [bne_eq_false_iff_eq]; exact e
      rw [e', cond_false, if_pos e, Option.bind_some, A75, if_pos (by omega), Option.bind_some]
      have b : B77 7 none (srt l) [p] 0 [] = some ([p], ((pm l.length (srt l)).foldl (stp p) (0, [])).1, ((pm l.length (srt l)).foldl (stp p) (0, [])).2) := by
        have hg : ([p] : List Pal).getD 0 dP = p := rfl
        rw [B77, Option.getD_none, hg, List.nil_append, if_pos ⟨by rw [srt_len]; omega, okS_ok.2 ⟨hp, by rw [srt_len]; omega, srt_seq hs⟩⟩, tryI, hg, srt_len]
        have : (pm l.length (srt l)).map (([] : List Int) ++ ·) = pm l.length (srt l) := by simp
        rw [this]
      simp only [b, Option.bind_some]
    · have e' : (sqE p l 6 != 0) = true := by rw [bne_iff_ne]; exact e
      rw [e', cond_true, if_neg e]
  · cases h⟩

end Go.Proofs.Ytaioadjcdjmkdaa
