/-
 The search for chains: first, walked: it answers the first chain that visit panics with.
-/
import Derived.Test.YtfopcfnggdonkaaGreatDoorF2
namespace Go.Proofs.YtfopcfnggdonkaaGreatDoor
open Go.Proofs.Tryz
open Go.RowKit
set_option linter.unusedVariables false
set_option linter.unusedSimpArgs false
def TB (wy : List Int -> Int -> Option Bool) (n : Int) : Nat -> Nat -> Option (List Int)
 | 0, _ => none
 | c + 1, s => match zV wy n s [1] with
  | none => none
  | some none => TB wy n c (s + 1)
  | some (some out) => some out
section
variable (G : Nat -> Prop) (K : World -> Prop) (n : Int) (sp : Option Addr) (sc : Nat)
 (hclone : ∀ W L v, K W -> jQ G L W v -> L.length <= 20 -> Calls prog 43 #[v] W fun e W' => Below W.heap.size W W' /\ ∃ u, e = .returned u /\ jQ G L W' u)
 (hKb : ∀ W W', K W -> Below W.heap.size W W' -> K W') (vK : ∀ W, K W -> ∀ b, W.heap.size <= b -> G b) (wy : List Int -> Int -> Option Bool)
 (BR : ∀ W L v x is, K W -> jQ G L W v -> wy L x = some is -> Calls prog 166 #[v, .int .i64 x] W fun e W' => Below W.heap.size W W' /\ ∃ i j : Int, e = .returned (.tuple #[.agg #[.int .i64 i, .int .i64 j], .bool is]))
 (hcont : ∀ W x, K W -> Calls prog 41 #[.slice sp 0 sc, .int .i64 x] W fun e W' => Below W.heap.size W W' /\ e = .returned (.bool false))
include hclone hKb vK BR hcont in
theorem al4 (hn1 : 1 <= n) (JD : n <= 46) : ∀ (k : Nat), k <= 7 -> ∀ (L : List Int) (v : Value) (W : World) (r : Option (List Int)), K W -> jQ G L W v -> 1 <= L.getLastD 0 -> L.getLastD 0 <= 46 -> L.length + k <= 20 -> zV wy n k L = some r ->
  Calls prog 160 #[.agg #[.int .i64 n, .slice sp 0 sc, .bool false], v, .int .i64 k, .func (.func 161) #[] #[]] W fun e W' => VP G W r e W'
 | 0, _, L, v, W, r, hK, hv, h1, h46, hl, hr => by
  simp only [zV, Option.some.injEq] at hr
  by_cases hn : L.getLastD 0 = n
  ·rw [decide_eq_true hn, cond_true] at hr
   subst hr
   exact aG8 G K n sp sc hclone hKb W L v hK hv (by omega) hn
  ·rw [decide_eq_false hn, cond_false] at hr
   subst hr
   exact aG9 G K n sp sc W L v hK hv hn
 | k + 1, hk, L, v, W, r, hK, hv, h1, h46, hl, hr => by
  by_cases hn : L.getLastD 0 * 2 ^ (k + 1) < n
  ·have hr' := hr
   rw [zV, decide_eq_true hn, cond_true] at hr'
   obtain rfl := Option.some.inj hr'
   exact aHA G K n sp sc W L v ((k + 1 : Nat) : Int) (by omega) (by omega) hK hv h1 h46 (by rw [Int.toNat_natCast]; exact hn)
  ·have := aG' G K n sp sc hKb vK wy BR hcont hn1 JD k (by omega) (fun L v W r a b c d e f => al4 hn1 JD k (by omega) L v W r a b c d e f) W L v r hK hv h1 h46 hl hr hn
   rw [show ((k + 1 : Nat) : Int) = (k : Int) + 1 by omega]
   exact this
def agW : Value -> Nat
 | .int _ i => (8 - i).toNat
 | _ => 0
def FR (W1 : World) (out : List Int) (p : Value) (wr : World) : Prop :=
 ∃ s : Nat, p = .int .i64 s /\ s <= 8 /\ TB wy n (8 - s) s = some out /\ Below W1.heap.size W1 wr
theorem jQ.set {L : List Int} {W : World} {v y : Value} {t T : Nat} (h : jQ G L W v) (hx : W.heap[t]? = some (.cells #[.slice none 0 0] T)) : jQ G L (W.setCell ⟨t, 0, none⟩ y) v := by
 obtain ⟨b, o, cap, h1, h2, h3, h4, h5, h6, h7⟩ := h
 have hbt : b ≠ t := by
  rintro rfl
  have := h7 0 h2
  rw [rP hx, Nat.add_zero] at this
  cases o with
  | zero => simp at this
  | succ o => simp at this
 refine ⟨b, o, cap, h1, h2, h3, h4, h5, by simpa using h6, fun i hi => ?_⟩
 rw [<- h7 i hi]
 exact World.cell?_of_block (w := W) (a := ⟨b, o + i, none⟩) (Below.heap_setCell W ⟨t, 0, none⟩ y b hbt)
theorem ar6 (W wr w5 W1 : World) (out : List Int) (u : Value) (hB1 : Below W.heap.size W W1) (hs1 : W1.heap.size = W.heap.size + 2) (hx4 : Below W1.heap.size W1 wr) (hb5 : Below wr.heap.size wr w5) (hxt : wr.heap[W.heap.size + 1]? = some (.cells #[.slice none 0 0] 31)) (hu : jQ G out w5 u)
  {tmps : Array Value} (ht : tmps[2]? = some (.pointer (some ⟨W.heap.size + 1, 0, none⟩))) : Leaves prog Tryz.f144 tmps (fun e W' => Below W.heap.size W W' /\ ∃ u, e = .returned u /\ jQ G out W' u)
   [{ target := .fn (.func 159) #[.pointer (some ⟨W.heap.size + 1, 0, none⟩)], args := #[] }] (.panicking [{ v := .iface 31 u, recovered := false }]) w5 := by
 have hz := hx4.size
 have h5 : w5.heap[W.heap.size + 1]? = some (.cells #[.slice none 0 0] 31) := (hb5.block _ (by omega)).trans hxt
 have hul : ∃ q n cap, u = .slice q n cap := by obtain ⟨b, o, cap, h1, _⟩ := hu; exact ⟨_, _, _, h1⟩
 refine leaves_cons (f := 159) (args := #[.pointer (some ⟨W.heap.size + 1, 0, none⟩)]) (by simp) (by simp [go_sem]) ?_
 refine (ar7 ⟨W.heap.size + 1, 0, none⟩ (.slice none 0 0) u w5 hul ((rP h5).trans rfl) (by simp [World.frozen?, h5])).mono ?_
 rintro e u' w'' ⟨rfl, rfl, rfl⟩
 have hB : Below W.heap.size W w5 := (hB1.trans (hx4.mono (by omega))).trans (hb5.mono (by omega))
 have hset := jQ.set G hu (y := u) h5
 have hBs : Below W.heap.size W (w5.setCell ⟨W.heap.size + 1, 0, none⟩ u) := hB.setCell (by simp) u
 have hres : (results Tryz.f144 tmps).run prog (w5.setCell ⟨W.heap.size + 1, 0, none⟩ u) = .ok u (w5.setCell ⟨W.heap.size + 1, 0, none⟩ u) := by
  have hcs : (w5.setCell ⟨W.heap.size + 1, 0, none⟩ u).cell? ⟨W.heap.size + 1, 0, none⟩ = some u := World.cell?_setCell_same' _ _ _ (by rw [rP h5]; rfl)
  simp [results, Tryz.results144, go_sem, ht, hcs]
 simp only [Leaves, settle]
 exact ⟨u, hres, hBs, u, rfl, hset⟩
include hclone hKb vK BR hcont in
set_option maxRecDepth 100000 in
set_option maxHeartbeats 1000000 in
theorem auX (hn1 : 1 <= n) (JD : n <= 46) (W : World) (out : List Int) (hK : K W) (hr : TB wy n 8 0 = some out) :
  Calls prog 144 #[.agg #[.int .i64 n, .slice sp 0 sc, .bool false]] W fun e W' => Below W.heap.size W W' /\ ∃ u, e = .returned u /\ jQ G out W' u := by
 have NP := al4 G K n sp sc hclone hKb vK wy BR hcont hn1 JD
 obtain ⟨W1, hW1⟩ : ∃ W1, W1 = (W.alloc (.cells #[.int .i64 n, .slice sp 0 sc, .bool false] 215)).alloc (.cells #[.slice none 0 0] 31) := ⟨_, rfl⟩
 have hB1 : Below W.heap.size W W1 := by rw [hW1]; exact ((Below.refl _ _).alloc (Nat.le_refl _) _).alloc (by simp) _
 have hs1 : W1.heap.size = W.heap.size + 2 := by rw [hW1]; simp
 have hc1 : W1.heap[W.heap.size]? = some (.cells #[.int .i64 n, .slice sp 0 sc, .bool false] 215) := by
  rw [hW1, Below.heap_alloc _ _ _ (by simp)]; exact heap_alloc_new W _
 have hc2 : W1.heap[W.heap.size + 1]? = some (.cells #[.slice none 0 0] 31) := by
  rw [hW1]; have := heap_alloc_new (W.alloc (.cells #[.int .i64 n, .slice sp 0 sc, .bool false] 215)) (.cells #[.slice none 0 0] 31); simpa using this
 have hct := hcont W1 1 (hKb _ _ hK hB1)
 have hmf : ∀ (fn : Fn) (first cap : Array Value) (w : World), (Instr.makeFunc fn first cap).run prog w = .ok (.func fn first cap) w := fun _ _ _ _ => rfl
 have hhr := tK hr
 clear hcont BR hclone hr
 rw [hW1] at hct
 go_enter_defers func144, Tryz.ntmps144
 go_wp2_with (first | (go_at_call 41; refine hct.mono ?_; clear hct; rintro e w2 ⟨hb2, rfl⟩; rw [<- hW1] at hb2))
 go_loopw [8] (fun p wr => FR n wy W1 out p wr) (fun p _ => agW p)
 case atStart => exact ⟨0, rfl, by omega, hhr.out, hb2⟩
 case round =>
  obtain ⟨s, rfl, hs8, hx3, hx4⟩ := hrel
  have hlt : s < 8 := by
   rcases Nat.lt_or_ge s 8 with h | h
   ·exact h
   ·rw [show 8 - s = 0 by omega] at hx3; cases hx3
  have hlt' : ((s : Int) < 8) := by omega
  rw [show 8 - s = (8 - (s + 1)) + 1 by omega, TB] at hx3
  have hsz : W.heap.size + 1 < wr.heap.size := by have := hx4.size; omega
  have xU : wr.heap[W.heap.size]? = some (.cells #[.int .i64 n, .slice sp 0 sc, .bool false] 215) := (hx4.block _ (by omega)).trans hc1
  have cn : wr.cell? ⟨W.heap.size, 0, none⟩ = some (.int .i64 n) := (rP xU).trans rfl
  have cs : wr.cell? ⟨W.heap.size, 1, none⟩ = some (.slice sp 0 sc) := (rP xU).trans rfl
  have cr : wr.cell? ⟨W.heap.size, 2, none⟩ = some (.bool false) := (rP xU).trans rfl
  have hKr : K wr := hKb _ _ (hKb _ _ hK hB1) hx4
  have hB3 : Below wr.heap.size wr (wr.alloc (.cells #[.int .i64 1] 3)) := (Below.refl _ _).alloc (Nat.le_refl _) _
  have hB4 : Below W1.heap.size W1 (wr.alloc (.cells #[.int .i64 1] 3)) := hx4.trans (hB3.mono hx4.size)
  have hv1 : jQ G [1] (wr.alloc (.cells #[.int .i64 1] 3)) (.slice (some ⟨wr.heap.size, 0, none⟩) 1 1) :=
   ⟨wr.heap.size, 0, 1, rfl, by simp, by simp, by simp [maxLen], vK wr hKr _ (Nat.le_refl _), by simp, fun i hi => by
    obtain rfl : i = 0 := by simpa using hi
    rw [rP (heap_alloc_new wr _)]; rfl⟩
  have h4s : wr.heap.size <= (wr.alloc (.cells #[.int .i64 1] 3)).heap.size := hB3.size
  cases hv : zV wy n s [1] with
  | none => simp [hv] at hx3
  | some r2 =>
   have BQ := NP s (by omega) [1] _ _ r2 (hKb _ _ hKr hB3) hv1 (by simp) (by simp) (by simp; omega) hv
   have Sz := tK hB1
   have aw3 := tK hx4
   cases r2 with
   | none =>
    simp only [hv] at hx3
    have hh3 := tK hx3
    clear hx3 hv NP vK hKb hv1 hB1 hc1 hc2 xU
    go_wp2_with (first | (go_at_call 160; refine BQ.mono ?_; clear BQ; rintro e w5 ⟨hb5, rfl⟩))
    exact ⟨⟨s + 1, by simp, by omega, hh3.out, hB4.trans (hb5.mono (by have := hB4.size; omega))⟩, by simp only [agW]; omega⟩
   | some o2 =>
    simp only [hv] at hx3
    obtain rfl : o2 = out := Option.some.inj hx3
    have hxt : wr.heap[W.heap.size + 1]? = some (.cells #[.slice none 0 0] 31) := (hx4.block _ (by omega)).trans hc2
    clear hx3 hv NP vK hKb hv1 hB1 hc1 hc2 xU
    go_wp2_with (first | (go_at_call 160; refine BQ.mono ?_; clear BQ; rintro e w5 ⟨hb5, u, rfl, hu⟩))
    have awH : Below wr.heap.size wr w5 := hB3.trans (hb5.mono h4s)
    exact ar6 G W wr w5 W1 o2 u Sz.out hs1 aw3.out awH hxt hu rfl
end
end Go.Proofs.YtfopcfnggdonkaaGreatDoor
