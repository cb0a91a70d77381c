/-
  The choice with the fewest stones.
-/
import Derived.Test.YtaioadjcdjmkdaaI3
namespace Go.Proofs.Ytaioadjcdjmkdaa
open Go.RowKit
set_option linter.unusedVariables false

abbrev Wy := List Bool × Int × Unit
abbrev Wys := List (Option Wy)
abbrev nw : Option Wy := none
/-- A way, put where there is none, or one with more stones. -/
def putW (next : Wys) (to : Nat) (w : Wy) : Wys :=
  match next.getD to nw with
  | none => next.set to (some w)
  | some o => cond (decide (w.2.1 < o.2.1)) (next.set to (some w)) next
def inW (ink : List Int) (next : Wys) (c : Nat) (w : Wy) : Wys :=
  putW (putW next c (w.1 ++ [false], w.2.1, ())) (ink.getD c 0).toNat (w.1 ++ [true], w.2.1 + 1, ())
def goW (ink : List Int) (next : Wys) (c : Nat) (o : Option Wy) : Wys := match o with
  | none => next
  | some w => inW ink next c w
/-- A stone more. -/
def stepW (n : Nat) (ink : List Int) (ways : Wys) : Wys := (List.range n).foldl (fun next c => goW ink next c (ways.getD c nw)) (List.replicate n nw)
def waysI (p : Pal) (l : List Int) : Wys := l.foldl (fun ways i => stepW p.1.toNat (p.2.1.getD i.toNat []) ways) ((List.replicate p.1.toNat nw).set 0 (some ([], 0, ())))
def endW (o : Option Wy) : List Bool × Int := match o with
  | none => ([], 14)
  | some w => (w.1, 0)
def chI (p : Pal) (l : List Int) (c : Int) : List Bool × Int := if sqE p l 12 = 0 then (if 0 ≤ c ∧ c < p.1 then endW ((waysI p l).getD c.toNat nw) else ([], 4)) else ([], sqE p l 12)
def B26 (p : Pal) (l : List Int) (c : Int) : Option (List Bool × Int) := if fitP p = true ∧ l.length ≤ 1000 then some (chI p l c) else none

theorem putW_len (next : Wys) (to : Nat) (w : Wy) : (putW next to w).length = next.length := by
  unfold putW; split
  · simp
  · rename_i o _
    cases decide (w.2.1 < o.2.1) <;> simp
theorem inW_len (ink : List Int) (next : Wys) (c : Nat) (w : Wy) : (inW ink next c w).length = next.length := by
  unfold inW; rw [putW_len, putW_len]
theorem goW_len (ink : List Int) (next : Wys) (c : Nat) (o : Option Wy) : (goW ink next c o).length = next.length := by
  cases o with
  | none => rfl
  | some w => exact inW_len ..
theorem foldW_len (ink : List Int) (ways : Wys) : ∀ (cs : List Nat) (next : Wys), (cs.foldl (fun next c => goW ink next c (ways.getD c nw)) next).length = next.length
  | [], next => rfl
  | c :: cs, next => by rw [List.foldl_cons, foldW_len ink ways cs, goW_len]
theorem stepW_len (n : Nat) (ink : List Int) (ways : Wys) : (stepW n ink ways).length = n := by rw [stepW, foldW_len, List.length_replicate]

/-- What is kept: every way is of so many stones, and not longer than the sequence so far. -/
def OkW (k : Nat) (ways : Wys) : Prop := ∀ w, some w ∈ ways → w.1.length ≤ k ∧ 0 ≤ w.2.1 ∧ w.2.1 ≤ k
theorem putW_mem {next : Wys} {to : Nat} {w v : Wy} (h : some v ∈ putW next to w) : v = w ∨ some v ∈ next := by
  have hs : some v ∈ next.set to (some w) → v = w ∨ some v ∈ next := fun h => by
    rcases List.mem_or_eq_of_mem_set h with h | h
    · exact .inr h
    · exact .inl (Option.some.inj h)
  unfold putW at h; split at h
  · exact hs h
  · cases hd : decide (w.2.1 < _) with
    | true => rw [hd] at h; exact hs h
    | false => rw [hd] at h; exact .inr h
theorem inW_ok {ink : List Int} {next : Wys} {c k : Nat} {w : Wy} (h : OkW (k + 1) next) (hw : w.1.length ≤ k ∧ 0 ≤ w.2.1 ∧ w.2.1 ≤ k) : OkW (k + 1) (inW ink next c w) := fun v hv => by
  rcases putW_mem hv with rfl | hv
  · simp; omega
  · rcases putW_mem hv with rfl | hv
    · simp; omega
    · exact h v hv
theorem goW_ok {ink : List Int} {next : Wys} {c k : Nat} {ways : Wys} (h : OkW (k + 1) next) (hw : OkW k ways) : OkW (k + 1) (goW ink next c (ways.getD c nw)) := by
  cases e : ways.getD c nw with
  | none => exact h
  | some w =>
    refine inW_ok h (hw w ?_)
    rw [← e]
    by_cases hc : c < ways.length
    · exact getD_mem hc
    · rw [List.getD_eq_getElem?_getD, List.getElem?_eq_none (by omega)] at e; cases e
theorem foldW_ok {ink : List Int} {ways : Wys} {k : Nat} (hw : OkW k ways) : ∀ (cs : List Nat) (next : Wys), OkW (k + 1) next → OkW (k + 1) (cs.foldl (fun next c => goW ink next c (ways.getD c nw)) next)
  | [], next, h => h
  | c :: cs, next, h => foldW_ok hw cs _ (goW_ok h hw)
theorem stepW_ok {n : Nat} {ink : List Int} {ways : Wys} {k : Nat} (hw : OkW k ways) : OkW (k + 1) (stepW n ink ways) :=
  foldW_ok hw _ _ fun w h => by have := List.eq_of_mem_replicate h; cases this

theorem KB67 : FnOk Try.prog 67 (F67 fun l => some l) := ok67 (fun l => some l) fun l r h => ⟨0, by
  rw [← h, m67]
  have : (decide (0 ≤ (l.length : Int) ∧ (l.length : Int) ≤ (l.length : Int)) && decide ((l.length : Int) = (l.length : Int))) = true := by simp
  rw [this, chk_true]; simp⟩

section
variable (p : Pal) (l : List Int) (col : Int) (ways : Wys) (t41 : Int)
abbrev LC (N : Nat) (c : Int) (rec : Int → Wys → Option (List Bool × Int)) := l26c B127 B55 B61 B63 (fun l => some l) (fun o _ => some o) N p l col ways t41 c rec

/-- The two ways of a colour. -/
theorem lc_ok {n : Nat} (hn : n ≤ 7) {c to k : Nat} (hc : c < n) (hto : to < n) {w : Wy} (hw : ways.getD c nw = some w) (hk : k ≤ 1000) (hwk : w.1.length ≤ k ∧ 0 ≤ w.2.1 ∧ w.2.1 ≤ k) (ink : List Int) (hi : ink.getD c 0 = (to : Int)) (rec : Int → Wys → Option (List Bool × Int)) (next : Wys) (hl : next.length = n) (M : Nat) :
    LC p l col ways t41 1001 (c : Int) rec (M + 3) [(c : Int), (to : Int)] 0 next = rec (w64 ((c : Int) + 1)) (inW ink next c w) := by
  have step : ∀ (m : Nat) (b : Nat) (x : Nat) (nx : Wys), b < 2 → ([(c : Int), (to : Int)] : List Int).getD b 0 = (x : Int) → x < n → nx.length = n →
      LC p l col ways t41 1001 (c : Int) rec (m + 1) [(c : Int), (to : Int)] (b : Int) nx = LC p l col ways t41 1001 (c : Int) rec m [(c : Int), (to : Int)] ((b + 1 : Nat) : Int) (putW nx x (w.1 ++ [(b : Int) == 1], w.2.1 + b, ())) := by
    intro m b x nx hb hx hxn hnl
    have e1 : decide ((b : Int) < 2) = true := decide_eq_true (by omega)
    have e2 : decide (0 ≤ (b : Int) ∧ (b : Int) < 2) = true := decide_eq_true (by omega)
    have e3 : decide (0 ≤ (x : Int) ∧ (x : Int) < (nx.length : Int)) = true := decide_eq_true (by omega)
    have e4 : w64 (w.2.1 + (b : Int)) = w.2.1 + b := w64_small (by omega)
    have e5 : w64 ((b : Int) + 1) = ((b + 1 : Nat) : Int) := w64_succ (by omega)
    have e6 : small (w.1.length + 1) 1 = true := small_of (by omega) (by decide)
    simp only [LC, l26c, e1, e2, cond_true, chk_true, Int.toNat_natCast, hx, e3, hw, Option.isSome_some, Option.getD_some, Option.bind_some, e4, e5, e6]
    unfold putW
    cases ho : nx.getD x nw with
    | none => simp only [Option.isNone_none, cond_true]
    | some o =>
      simp only [Option.isNone_some, Option.isSome_some, cond_false, chk_true, Option.getD_some]
      cases hd : decide (w.2.1 + (b : Int) < o.2.1) with
      | true => rfl
      | false => rfl
  have p0 : ((w.1 ++ [((0 : Nat) : Int) == 1], w.2.1 + ((0 : Nat) : Int), ()) : Wy) = (w.1 ++ [false], w.2.1, ()) := by rw [show (((0 : Nat) : Int) == 1) = false from rfl, show ((0 : Nat) : Int) = 0 from rfl, Int.add_zero]
  have p1 : ((w.1 ++ [((1 : Nat) : Int) == 1], w.2.1 + ((1 : Nat) : Int), ()) : Wy) = (w.1 ++ [true], w.2.1 + 1, ()) := rfl
  have h0 := step (M + 2) 0 c next (by decide) rfl hc hl
  rw [p0] at h0
  have h1 := step (M + 1) 1 to (putW next c (w.1 ++ [false], w.2.1, ())) (by decide) rfl hto (by rw [putW_len]; exact hl)
  rw [p1] at h1
  refine h0.trans (h1.trans ?_)
  have e : decide (((1 + 1 : Nat) : Int) < 2) = false := decide_eq_false (by omega)
  simp only [LC, l26c, e, cond_false]
  rw [inW, hi, Int.toNat_natCast]
end

theorem KB26 : FnOk Try.prog 26 (F26 B26) := ok26 B127 B55 B61 B63 (fun l => some l) (fun o _ => some o) KB127 KB55 KB61 KB63 KB67 KB87 B26 fun p l col r h => ⟨1001, by
  simp only [B26] at h
  split at h
  · rename_i hf
    rw [← h, m26, B55, if_pos hf, Option.bind_some, chI]
    by_cases e : sqE p l 12 = 0
    · obtain ⟨hp, hl12, hs⟩ := sq_ok.1 e
      obtain ⟨n2, n7, hn⟩ := nat7 hp
      have e' : (sqE p l 12 != 0) = false := by rw [bne_eq_false_iff_eq]; exact e
      have ew : w64 (p.1 - 1) = p.1 - 1 := w64_small (by omega)
      rw [e', cond_false, if_pos e, B63, Option.bind_some, ew]
      by_cases hc : 0 ≤ col ∧ col < p.1
      · have hc' : decide (0 ≤ col ∧ col ≤ p.1 - 1) = true := decide_eq_true (by omega)
        have mk : mkOk p.1 p.1 8 = true := by simp only [mkOk, Bool.and_eq_true, decide_eq_true_eq]; omega
        have e0 : decide (0 ≤ (0 : Int) ∧ (0 : Int) < ((List.replicate p.1.toNat nw).length : Int)) = true := decide_eq_true (by simp only [List.length_replicate]; omega)
        rw [if_pos hc, hc', Bool.not_true, cond_false, mk, chk_true, e0, chk_true]
        have main := rangeIx l 0 (fun n (ways : Wys) t => l26a B127 B55 B61 B63 (fun l => some l) (fun o _ => some o) 1001 p l col n ways t) (fun t xs ways => SeqOk p xs ∧ ways.length = p.1.toNat ∧ OkW t ways) (fun t xs ways => some (endW ((xs.foldl (fun ways i => stepW p.1.toNat (p.2.1.getD i.toNat []) ways) ways).getD col.toNat nw)))
          (fun n ways t x rest ht hx hI ih => by
            obtain ⟨i1, i2, i3⟩ := hI
            have hx1 := i1 x (List.mem_cons_self ..)
            have hk := hp.at hx1
            simp only [l26a, ixA ht, ixB ht, cond_true, chk_true, mk]
            have inner := rangeIx ways nw (fun m (nx : Wys) c => l26b B127 B55 B61 B63 (fun l => some l) (fun o _ => some o) 1001 p l col ways t (fun y0 y1 => l26a B127 B55 B61 B63 (fun l => some l) (fun o _ => some o) 1001 p l col n y0 y1) m c nx) (fun c xs nx => nx.length = p.1.toNat ∧ OkW (t + 1) nx ∧ c + xs.length = p.1.toNat) (fun c xs nx => some (endW ((rest.foldl (fun ways i => stepW p.1.toNat (p.2.1.getD i.toNat []) ways) ((List.range' c xs.length).foldl (fun next c => goW (p.2.1.getD x.toNat []) next c (ways.getD c nw)) nx)).getD col.toNat nw)))
              (fun m nx c o os hcl ho hJ ih2 => by
                obtain ⟨j1, j2, j3⟩ := hJ
                have hcn : c < p.1.toNat := by omega
                have hke := hk.at hcn
                obtain ⟨z, hz⟩ : ∃ z : Nat, (p.2.1.getD x.toNat []).getD c 0 = z := ⟨((p.2.1.getD x.toNat []).getD c 0).toNat, by omega⟩
                simp only [List.length_cons] at j3
                rw [List.length_cons, List.range'_succ, List.foldl_cons]
                simp only [l26b, ixA hcl, ixB hcl, cond_true, chk_true, Int.toNat_natCast, ho, hx, hp.B61 hx1, Option.bind_some]
                cases o with
                | none =>
                  simp only [Option.isNone_none, cond_true, ixW hcl (by omega)]
                  rw [ih2 nx ⟨j1, j2, by omega⟩]; rfl
                | some w =>
                  have hwm : w.1.length ≤ t ∧ 0 ≤ w.2.1 ∧ w.2.1 ≤ t := i3 w (by rw [← ho]; exact getD_mem hcl)
                  simp only [Option.isNone_some, cond_false]
                  refine (kd_over hk (c := (c : Int)) (by omega) fun r6 => l26c B127 B55 B61 B63 (fun l => some l) (fun o _ => some o) 1001 p l col ways t c (fun y0 y1 => l26b B127 B55 B61 B63 (fun l => some l) (fun o _ => some o) 1001 p l col ways t (fun y0 y1 => l26a B127 B55 B61 B63 (fun l => some l) (fun o _ => some o) 1001 p l col n y0 y1) m y0 y1) 1001 [(c : Int), r6] 0 nx).trans ?_
                  rw [Int.toNat_natCast, hz]
                  refine (lc_ok p l col ways t n7 hcn (by omega) ho (k := t) (by omega) hwm (p.2.1.getD x.toNat []) hz _ nx j1 998).trans ?_
                  rw [ixW hcl (by omega), ih2 _ ⟨by rw [inW_len]; exact j1, inW_ok j2 hwm, by omega⟩]; rfl)
              (fun m nx hJ => by
                simp only [l26b, ixE, cond_false, ixW ht (by omega)]
                rw [ih nx ⟨fun y hy => i1 y (by simp [hy]), hJ.1, hJ.2.1⟩]; rfl) 1001 (List.replicate p.1.toNat nw) (by omega) ⟨by simp, fun w hw => (by have := List.eq_of_mem_replicate hw; cases this), by omega⟩
            refine inner.trans ?_
            rw [List.foldl_cons, stepW, i2, ← List.range_eq_range'])
          (fun n ways hI => by
            have e1 : decide (0 ≤ col ∧ col < (ways.length : Int)) = true := decide_eq_true (by rw [hI.2.1]; omega)
            simp only [l26a, ixE, cond_false, e1, chk_true, List.foldl_nil]
            cases ways.getD col.toNat nw with
            | none => rfl
            | some w => rfl) 1001 ((List.replicate p.1.toNat nw).set 0 (some ([], 0, ()))) (by omega) ⟨hs, by simp, fun w hw => by
              rcases List.mem_or_eq_of_mem_set hw with hw | hw
              · have := List.eq_of_mem_replicate hw; cases this
              · obtain rfl := Option.some.inj hw; simp⟩
        exact main
      · have hc' : decide (0 ≤ col ∧ col ≤ p.1 - 1) = false := decide_eq_false (by omega)
        rw [if_neg hc, hc']; rfl
    · have e' : (sqE p l 12 != 0) = true := by rw [bne_iff_ne]; exact e
      rw [e', cond_true, if_neg e]
  · cases h⟩

end Go.Proofs.Ytaioadjcdjmkdaa
