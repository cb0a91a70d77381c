/-
  slices.Sorted(slices.Values(s)) as a contract.
-/
import Derived.Test.YtaioadjcdjmkdaaQFI
import Derived.Test.YtaioadjcdjmkdaaSq
namespace Go.Proofs.Ytaioadjcdjmkdaa
open Go.RowKit
set_option linter.unusedVariables false

/-- Put into a sorted list; sorted. -/
def ins (x : Int) : List Int → List Int
  | [] => [x]
  | y :: r => cond (decide (x ≤ y)) (x :: y :: r) (y :: ins x r)
def srt : List Int → List Int
  | [] => []
  | x :: r => ins x (srt r)

theorem ins_perm (x : Int) : ∀ l, (ins x l).Perm (x :: l)
  | [] => .refl _
  | y :: r => by
    simp only [ins]
    cases decide (x ≤ y) with
    | true => exact .refl _
    | false => exact ((ins_perm x r).cons y).trans (.swap x y r)

theorem srt_perm : ∀ l, (srt l).Perm l
  | [] => .refl _
  | x :: r => (ins_perm x (srt r)).trans ((srt_perm r).cons x)

theorem ins_sorted (x : Int) : ∀ {l}, l.Pairwise (fun a b => decide (a ≤ b) = true) → (ins x l).Pairwise (fun a b => decide (a ≤ b) = true)
  | [], _ => by simp [ins]
  | y :: r, h => by
    obtain ⟨h1, h2⟩ := List.pairwise_cons.1 h
    simp only [ins]
    cases e : decide (x ≤ y) with
    | true =>
      refine List.pairwise_cons.2 ⟨fun z hz => ?_, h⟩
      rcases List.mem_cons.1 hz with rfl | hz
      · exact e
      · have := h1 z hz
        simp only [decide_eq_true_eq] at *; omega
    | false =>
      refine List.pairwise_cons.2 ⟨fun z hz => ?_, ins_sorted x h2⟩
      rcases List.mem_cons.1 ((ins_perm x r).mem_iff.1 hz) with rfl | hz
      · simp only [decide_eq_false_iff_not, decide_eq_true_eq] at *; omega
      · exact h1 z hz

theorem srt_sorted : ∀ l, (srt l).Pairwise (fun a b => decide (a ≤ b) = true)
  | [] => .nil
  | x :: r => ins_sorted x (srt_sorted r)

theorem srt_eq (l : List Int) : (l.mergeSort fun x y => decide (x ≤ y)) = srt l :=
  List.Perm.eq_of_pairwise (le := fun a b => decide (a ≤ b) = true) (fun a b _ _ h1 h2 => by simp only [decide_eq_true_eq] at h1 h2; omega)
    (List.pairwise_mergeSort (fun a b c h1 h2 => by simp only [decide_eq_true_eq] at *; omega) (fun a b => by simp only [Bool.or_eq_true, decide_eq_true_eq]; omega) l) (srt_sorted l) ((List.mergeSort_perm l _).trans (srt_perm l).symm)


def A75 (l : List Int) : Option (List Int × List Int) := if l.length * 8 ≤ 140737488351232 then some (srt l, l) else none

theorem enters75 (xs : Array Value) (w : World) : (callFunc 75 xs).run Try.prog w = .ok (.enter 75 xs) w := enters_of Try.func75 (by kernel_rfl) rfl xs w

theorem tlook_one {o : TO} {id : Nat} {o1 : TO} (h : tlook [(9000, o)] id = some o1) : id = 9000 ∧ o1 = o := by
  simp only [tlook] at h
  split at h
  · rename_i e; exact ⟨e, (Option.some.inj h).symm⟩
  · cases h

theorem own_one {π : Nat → Pl} {o : TO} {id g : Nat} (h : Own π (tlook [(9000, o)]) id g) : id = 9000 := (tlook_one (h.2.choose_spec.1)).1

theorem sorted_spec {l : List Int} (hl : l.length * 8 ≤ 140737488351232) {f : Nat → TV} (hf : f 0 = .ptr 9000 0 [0]) :
    HSpec Try.prog 75 [.fn 90 0 1 f] [(9000, .rcd [.dv tIs l])] fun r O => r = .dv tIs (srt l) ∧ O = [(9000, .rcd [.dv tIs l])] := by
  refine ⟨enters75, fun w F π vs hvl hF hfr hv => ?_⟩
  obtain ⟨v, rfl⟩ : ∃ v, vs = [v] := by
    match vs, hvl with
    | [v], _ => exact ⟨v, rfl⟩
  obtain ⟨fs, cs, rfl, h2, h3, _, h5⟩ : VR w (Gz F w π (tlook [(9000, .rcd [.dv tIs l])])) π (tlook [(9000, .rcd [.dv tIs l])]) (.fn 90 0 1 f) v := hv 0 _ _ rfl rfl
  obtain ⟨u, u1, u2⟩ := h5 0 (by omega)
  rw [Nat.add_zero, hf] at u2
  obtain rfl : fs = #[] := Array.eq_empty_of_size_eq_zero h2
  obtain rfl : cs = #[u] := by
    apply Array.ext
    · simp [h3]
    · intro i hi hj
      have : i = 0 := by simp at hj; omega
      subst this
      rw [Array.getElem?_eq_getElem hi] at u1
      simpa using Option.some.inj u1
  have ho := hfr.obj 9000 (.rcd [.dv tIs l]) (by simp [tlook])
  obtain ⟨g, cur, e, g1, g2, g3⟩ := ho
  simp only [VR, tlook, if_true] at u2
  obtain ⟨c, g', c1, _, c3, rfl⟩ := u2 rfl
  rw [g1] at c3; obtain rfl := Option.some.inj c3
  have hc0 : c = 0 := by simpa [TO.loc, TV.floc, DT.at_nil, offs] using c1.symm
  subst hc0
  obtain ⟨sv, s1, _, s3⟩ := g3 0 _ rfl 0 (by simp [TV.size, DT.size])
  have hgl : g < w.heap.size := (Array.getElem?_eq_some_iff.1 g2).1
  have hcell : w.cell? ⟨g, (π 9000).q + 0, none⟩ = some sv := by
    rw [cell_at g2]; simpa [offs] using s1
  have hI : Ints w.heap.size w sv l := by
    obtain ⟨p, cap, e1, _, _, _, _, e6⟩ : (DT.sl (.int .i64)).cell l 0 w (Gz F w π (tlook [(9000, .rcd [.dv tIs l])])) sv := s3
    by_cases hn : 0 < l.length
    · obtain ⟨b, o, rfl, hb, hcs⟩ := e6 hn
      refine .inr ⟨b, o, cap, e1, hb.2.1, fun j hj => ?_⟩
      obtain ⟨z, z1, _, z3⟩ := hcs j hj 0 (by simp [DT.size])
      have : z = .int .i64 (l.getD j 0) := z3
      rw [← List.getD_eq_getElem?_getD, ← this, ← z1]
      congr 2
      simp [DT.size]
    · have : l = [] := List.eq_nil_of_length_eq_zero (by omega)
      subst this
      exact .inl ⟨rfl, p, cap, e1⟩
  refine (sorted_calls g ((π 9000).q + 0) sv l hl w hgl hcell hI).mono fun e' w' ⟨v', he, hrow, hb⟩ => ?_
  rw [srt_eq] at hrow
  have hlen : (srt l).length = l.length := (srt_perm l).length_eq
  let O : List (Nat × TO) := [(9000, .rcd [.dv tIs l])]
  let F' : Nat → Prop := fun b => F b ∨ w.heap.size ≤ b
  have E : Evo w (Gz F w π (tlook O)) π (tlook O) w' (Gz F' w' π (tlook O)) π (tlook O) :=
    ⟨fun b ⟨r0, r1, r2⟩ => ⟨⟨.inl r0, Nat.lt_of_lt_of_le r1 hb.size, r2⟩, hb.block b r1⟩, fun id o ho => ⟨o, ho, Step.refl o⟩⟩
  have hnew : ∀ id b, Own π (tlook O) id b → F b ∧ b < w.heap.size := hfr.new
  have hobj : ∀ id o, tlook O id = some o → OR w' (Gz F' w' π (tlook O)) π (tlook O) id o := fun id o ho =>
    (hfr.obj id o ho).evo E rfl fun b hb' hl' => hb.block b (hnew id b ⟨hb', o, ho, hl'⟩).2
  refine ⟨.dv tIs (srt l), v', O, π, he, ⟨rfl, rfl⟩, ⟨hobj, hfr.inj, fun id b hid => ⟨.inl (hnew id b hid).1, Nat.lt_of_lt_of_le (hnew id b hid).2 hb.size⟩⟩, (DT.val_one (t := tIs) rfl).2 ?_, fun id o ho => ⟨o, ho, fun hl' => ⟨rfl, Shp.refl hl'⟩⟩, fun id b hid => .inl ⟨id, hid⟩, ⟨hb.os, hb.tape, hb.output, hb.size, fun b hb' => hb.block b hb'.2⟩⟩
  obtain ⟨_, ⟨rfl, hz⟩ | ⟨b, cap, cur', rfl, r1, r2, r3, r4, r5, r6⟩⟩ := hrow
  · refine ⟨none, 0, by rw [hlen, hz], by rw [hlen, hz]; exact Nat.le_refl _, by simp [maxLen], fun _ => rfl, trivial, fun h => by omega⟩
  · have hbl : b < w'.heap.size := (Array.getElem?_eq_some_iff.1 r2).1
    refine ⟨_, cap, by rw [hlen], by rw [hlen]; exact r3, r4, (fun h => by cases h), trivial, fun hn => ⟨b, 0, rfl, ⟨.inr r1, hbl, fun id hid => ?_⟩, fun i hi cc hcc => ?_⟩⟩
    · have := (hnew id b hid).2; omega
    · obtain rfl : cc = 0 := by simp [DT.size] at hcc; omega
      refine ⟨.int .i64 ((srt l).getD i 0), ?_, rfl, rfl⟩
      rw [cell_at r2, ← Array.getElem?_toList]
      have h7 : (cur'.toList.take (l.length * 1))[i]? = ((srt l).map (Value.int .i64))[i]? := by rw [r6]
      rw [List.getElem?_take_of_lt (by omega)] at h7
      simp only [DT.size, Nat.mul_one, Nat.zero_add, Nat.add_zero]
      rw [h7]
      simp [hi]

theorem KB75 : FnOk Try.prog 75 (F75c90 A75) := by
  intro args Of x hx
  simp only [F75c90] at hx
  split at hx
  · rename_i f p0 heqc
    have hc := congrArg (fun c : List (List TV) => (c.getD 0 []).getD 0 .any) heqc
    have hf : f 0 = .ptr 9000 0 [0] := by simpa [capsOf, TV.caps, List.range_succ] using hc
    simp only [A75] at hx
    split at hx
    · rename_i hl
      obtain rfl := Option.some.inj hx
      exact sorted_spec hl hf
    · cases hx
  · cases hx

end Go.Proofs.Ytaioadjcdjmkdaa
