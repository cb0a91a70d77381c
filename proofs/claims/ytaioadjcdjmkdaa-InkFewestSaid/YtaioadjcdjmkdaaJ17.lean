/-
  The first sequence of a size that serves.
-/
import Derived.Test.YtaioadjcdjmkdaaJ16
import Derived.Test.YtaioadjcdjmkdaaQM45c
import Derived.Test.YtaioadjcdjmkdaaQM47c
import Derived.Test.YtaioadjcdjmkdaaQM46c47
namespace Go.Proofs.Ytaioadjcdjmkdaa
open Go.RowKit
set_option linter.unusedVariables false

def svL (p : Pal) (want : List Int) (l : List Int) : Bool := want.all fun c => (givI p l).testBit c.toNat
def okW (p : Pal) (want : List Int) : Bool := decide (want.length ≤ 1000) && want.all fun c => decide (0 ≤ c ∧ c < (p.1.toNat : Int))
theorem okW_ok {p : Pal} {want : List Int} : okW p want = true ↔ want.length ≤ 1000 ∧ ∀ c ∈ want, 0 ≤ c ∧ c < (p.1.toNat : Int) := by simp [okW]
abbrev okK3 (p : Pal) (want l : List Int) : Prop := okS p l = true ∧ l.length ≤ 12 ∧ okW p want = true
def B45 (l : List Int) (p1 : List Pal) (want : List Int) : Option (Bool × List Int × List Pal × List Int) := if okK3 (p1.getD 0 dP) want l then some (svL (p1.getD 0 dP) want l, l, p1, want) else none
theorem KB45 : FnOk Try.prog 45 (F45c B45) := ok45c B43 KB43 B45 fun l p1 want r h => ⟨1001, by
  simp only [B45] at h
  split at h
  · rename_i hf
    obtain ⟨h1, h2, h3⟩ := hf
    obtain ⟨hp, _, hs⟩ := okS_ok.1 h1
    obtain ⟨w1, w2⟩ := okW_ok.1 h3
    rw [← h, m45c]
    generalize hpp : p1.getD 0 dP = p at *
    have hpp' : p1.getD 0 ((0 : Int), ([] : List (List Int)), ()) = p := hpp
    have hlen := (lea_lst hp hs).len
    rw [B43_ok hp hs h2, Option.bind_some]
    exact rangeInv want 0 (fun n (_ : Unit) t => l45ca B43 1001 l p1 want (leaI p l) n t) (fun xs _ => ∀ c ∈ xs, 0 ≤ c ∧ c < (p.1.toNat : Int)) (fun xs _ => some (svL p xs l, l, p1, want))
      (fun n _ t x rest ht hx hI ih => by
        have hx1 := hI x (by simp)
        have e1 : decide (0 ≤ x ∧ x < ((leaI p l).length : Int)) = true := decide_eq_true (by omega)
        have e2 := lea_pos hp hs (c := x.toNat) (by omega)
        simp only [l45ca, ixA ht, ixB ht, cond_true, chk_true, Int.toNat_natCast, hx, e1, ixW ht (by omega), ih () (fun y hy => hI y (by simp [hy])), svL, List.all_cons]
        by_cases e : (givI p l).testBit x.toNat = true
        · have := e2.2 e
          rw [decide_eq_false (by omega), cond_false, e, Bool.true_and]
        · have h0 : (leaI p l).getD x.toNat 0 < 0 := by
            rcases Int.lt_or_le ((leaI p l).getD x.toNat 0) 0 with q | q
            · exact q
            · exact absurd (e2.1 q) e
          rw [decide_eq_true h0, cond_true]
          simp [e])
      (fun n _ _ => by simp only [l45ca, ixE, cond_false]; rfl) 1001 () (by omega) w2
  · cases h⟩
def B47 (l best : List Int) (p2 : List Pal) (want : List Int) : Option (Bool × List Int × List Int × List Pal × List Int) := if okK3 (p2.getD 0 dP) want l then some (cond (svL (p2.getD 0 dP) want l) (true, l, l, p2, want) (false, l, best, p2, want)) else none
theorem KB47 : FnOk Try.prog 47 (F47c B47) := ok47c B45 KB45 B47 fun l best p2 want r h => ⟨0, by
  simp only [B47] at h
  split at h
  · rename_i hf
    rw [← h, m47c, B45, if_pos hf, Option.bind_some]
    cases svL (p2.getD 0 dP) want l with
    | true => simp only [cond_true, chk_of (small_of (n := 0 + l.length) (eb := 8) (by have := hf.2.1; omega) (by decide)), List.nil_append]
    | false => rfl
  · cases h⟩
def ansF (best : List Int) (p2 : List Pal) (want : List Int) (o : Option (List Int)) : Bool × List Int × List Pal × List Int := match o with
  | some l => (true, l, p2, want)
  | none => (false, best, p2, want)
def B46 (inks size : Int) (best : List Int) (p2 : List Pal) (want : List Int) : Option (Bool × List Int × List Pal × List Int) :=
  if ck (p2.getD 0 dP) = 0 ∧ inks = ((p2.getD 0 dP).2.1.length : Int) ∧ (0 ≤ size ∧ size ≤ 12) ∧ okW (p2.getD 0 dP) want = true then some (ansF best p2 want ((allS (p2.getD 0 dP).2.1.length size.toNat).find? (svL (p2.getD 0 dP) want))) else none
theorem KB46 : FnOk Try.prog 46 (F46c47 B46) := ok46c47 B47 KB47 B46 fun inks size best p2 want r h => by
  simp only [B46] at h
  split at h
  · rename_i hf
    obtain ⟨h1, rfl, h3, h4⟩ := hf
    have hp := ck_ok.1 h1
    generalize hpp : p2.getD 0 dP = p at *
    obtain ⟨k, rfl⟩ : ∃ k : Nat, size = k := ⟨size.toNat, by omega⟩
    obtain ⟨T, t1, t2⟩ := allS_ok (m := p.2.1.length) (show 0 < p.2.1.length from hp.i1) k
    have hm := hp.i6
    refine ⟨1001 + T.length, ?_⟩
    have mk : mkOk (k : Int) (k : Int) 8 = true := by simp only [mkOk, Bool.and_eq_true, decide_eq_true_eq]; omega
    have ws : w64 ((k : Int) - 1) = (k : Int) - 1 := w64_small (by omega)
    rw [← h, m46c47, mk, chk_true, Int.toNat_natCast, t1]
    have chain : ∀ (N : Nat), 1000 < N → ∀ (T : List (List Int)) (o : List Int) (n : Nat), Ls p.2.1.length (o :: T) (List.replicate k ((p.2.1.length : Int) - 1)) → (∀ q ∈ o :: T, q ∈ allS p.2.1.length k) → T.length < n →
        l46c47a B47 N (p.2.1.length : Int) (k : Int) n best o p2 want = some (ansF best p2 want ((o :: T).find? (svL p want))) := by
      intro N hN T
      induction T with
      | nil =>
        intro o n hl hq hn
        obtain ⟨n, rfl⟩ : ∃ q, n = q + 1 := ⟨n - 1, by omega⟩
        obtain ⟨ol, os⟩ := allS_mem.1 (hq o (by simp))
        have b : B47 o best p2 want = some (cond (svL p want o) (true, o, o, p2, want) (false, o, best, p2, want)) := by
          rw [B47, hpp, if_pos ⟨okS_ok.2 ⟨hp, by omega, os⟩, by omega, h4⟩]
        simp only [l46c47a, b, Option.bind_some]
        cases e : svL p want o with
        | true => simp only [cond_true, List.find?_cons, e]; rfl
        | false =>
          obtain rfl : o = _ := hl
          simp only [cond_false, ws, List.find?_cons, e, List.find?_nil]
          exact odo_last (m := p.2.1.length) (k := k) (L := fun n' i o => l46c47b B47 N (p.2.1.length : Int) (k : Int) (false, List.replicate k ((p.2.1.length : Int) - 1), best, p2, want) (fun y0 y1 y2 y3 => l46c47a B47 N (p.2.1.length : Int) (k : Int) n y0 y1 y2 y3) n' i o) (F := some (false, best, p2, want)) (R := fun o' => l46c47a B47 N (p.2.1.length : Int) (k : Int) n best o' p2 want) (fun n i o => rfl) (by omega) (by omega) hN
      | cons o' T ih =>
        intro o n hl hq hn
        obtain ⟨n, rfl⟩ : ∃ q, n = q + 1 := ⟨n - 1, by omega⟩
        obtain ⟨ol, os⟩ := allS_mem.1 (hq o (by simp))
        have b : B47 o best p2 want = some (cond (svL p want o) (true, o, o, p2, want) (false, o, best, p2, want)) := by
          rw [B47, hpp, if_pos ⟨okS_ok.2 ⟨hp, by omega, os⟩, by omega, h4⟩]
        obtain ⟨l1, l2⟩ := hl
        simp only [l46c47a, b, Option.bind_some]
        cases e : svL p want o with
        | true => simp only [cond_true]; rw [List.find?_cons_of_pos e]; rfl
        | false =>
          simp only [cond_false, ws]
          rw [List.find?_cons_of_neg (by simp [e])]
          have := odo_next (m := p.2.1.length) (L := fun n' i q => l46c47b B47 N (p.2.1.length : Int) (k : Int) (false, o, best, p2, want) (fun y0 y1 y2 y3 => l46c47a B47 N (p.2.1.length : Int) (k : Int) n y0 y1 y2 y3) n' i q) (F := some (false, best, p2, want)) (R := fun o' => l46c47a B47 N (p.2.1.length : Int) (k : Int) n best o' p2 want) (fun n i o => rfl) (by omega) l1 (by omega) hN
          rw [ol] at this
          refine this.trans ?_
          exact ih o' n l2 (fun q hq' => hq q (by simp [hq'])) (by simpa using hn)
    exact chain (1001 + T.length) (by omega) T _ _ t2 (fun q hq => by rw [t1]; exact hq) (by omega)
  · cases h

/-! ### the first of all -/
theorem SX.lx {m : Nat} {o o' : List Int} (h : SX m o o') : lx o o' := by
  obtain ⟨pre, x, j, rfl, _, rfl⟩ := h
  have : ∀ (p : List Int) (u v : List Int), Go.Proofs.Ytaioadjcdjmkdaa.lx (p ++ (x : Int) :: u) (p ++ ((x + 1 : Nat) : Int) :: v) := fun p u v => by
    induction p with
    | nil => exact .inl (by omega)
    | cons a p ih => exact .inr ⟨rfl, ih⟩
  exact this ..
theorem Ls.asc {m : Nat} : ∀ {o : List Int} {T : List (List Int)} {z : List Int}, Ls m (o :: T) z → ∀ q ∈ T, Go.Proofs.Ytaioadjcdjmkdaa.lx o q
  | o, [], _, _, q, hq => by cases hq
  | o, o' :: T, z, h, q, hq => by
    rcases List.mem_cons.1 hq with rfl | hq
    · exact h.1.lx
    · exact lx_trans h.1.lx (Ls.asc h.2 q hq)
theorem Ls.pw {m : Nat} : ∀ {o : List Int} {T : List (List Int)} {z : List Int}, Ls m (o :: T) z → (o :: T).Pairwise Go.Proofs.Ytaioadjcdjmkdaa.lx
  | o, [], _, _ => by simp
  | o, o' :: T, z, h => List.pairwise_cons.2 ⟨Ls.asc h, Ls.pw h.2⟩
theorem find_none {p : Pal} (hp : PalOk p) {s k : Nat} {f : List Int → Bool} (hf : ∀ l, f l = true ↔ Sv p s l) (h : ∀ l, fewI p s = some l → k < l.length) : (allS p.2.1.length k).find? f = none := by
  rw [List.find?_eq_none]
  intro l hl hfl
  obtain ⟨l1, l2⟩ := allS_mem.1 hl
  obtain ⟨m, e, hm⟩ := few_of hp (l := l) l2 ((hf l).1 hfl)
  have := h m e
  have := sle_len hm
  omega
theorem find_some {p : Pal} (hp : PalOk p) {s : Nat} {f : List Int → Bool} (hf : ∀ l, f l = true ↔ Sv p s l) {l : List Int} (h : fewI p s = some l) : (allS p.2.1.length l.length).find? f = some l := by
  obtain ⟨h1, h2, h3⟩ := few_some hp h
  have hm : l ∈ allS p.2.1.length l.length := allS_mem.2 ⟨rfl, h1⟩
  obtain ⟨T, t1, t2⟩ := allS_ok (show 0 < p.2.1.length from hp.i1) l.length
  have pw := t2.pw
  rw [← t1] at pw
  cases e : (allS p.2.1.length l.length).find? f with
  | none => exact absurd ((hf l).2 h2) (List.find?_eq_none.1 e l hm)
  | some q =>
    obtain ⟨e1, us, bs, e2, e3⟩ := List.find?_eq_some_iff_append.1 e
    rw [e2] at hm pw
    have hq : q ∈ allS p.2.1.length l.length := by rw [e2]; simp
    obtain ⟨q1, q2⟩ := allS_mem.1 hq
    have hle := h3 q q2 ((hf q).1 e1)
    rcases List.mem_append.1 hm with hm | hm
    · have := e3 l hm
      rw [(hf l).2 h2] at this; simp at this
    · rcases List.mem_cons.1 hm with hm | hm
      · rw [hm]
      · have hlt := (List.pairwise_cons.1 (List.pairwise_append.1 pw).2.1).1 l hm
        rcases hle with hle | hle | ⟨_, hle⟩
        · rw [hle]
        · omega
        · exact absurd (lx_trans hle hlt) lx_irr
theorem add_two {n : Nat} {l : List Int} {s : Nat} (hk : InkOk n l) (hs : s < 2 ^ n) (hn : n ≤ 7) : (cols (addI l s)).length ≤ 2 * (cols s).length := by
  have nd : ∀ s, (cols s).Nodup := fun s => List.nodup_range.sublist List.filter_sublist
  have := (nd (addI l s)).length_le_of_subset (l₂ := cols s ++ (cols s).map fun c => (l.getD c 0).toNat) (fun c hc => by
    obtain ⟨c7, cb⟩ := cols_mem.1 hc
    rw [add_bit hs hn] at cb
    rcases cb with cb | ⟨d, hd, e⟩
    · exact List.mem_append.2 (.inl (cols_mem.2 ⟨c7, cb⟩))
    · have := lt_bit hs hd
      exact List.mem_append.2 (.inr (List.mem_map.2 ⟨d, cols_mem.2 ⟨by omega, hd⟩, e⟩)))
  simp only [List.length_append, List.length_map] at this
  omega

end Go.Proofs.Ytaioadjcdjmkdaa
