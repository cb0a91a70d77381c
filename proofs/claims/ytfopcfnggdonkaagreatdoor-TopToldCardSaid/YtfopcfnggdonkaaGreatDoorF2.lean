/-
 The search for chains: visit, walked.
-/
import Derived.Test.YtfopcfnggdonkaaGreatDoorF1
import Derived.IntWalk
import Derived.Deep.Cut
import Derived.Deep.RegionLaw
import Derived.Deep.RegionHeld3
namespace Go.Proofs.YtfopcfnggdonkaaGreatDoor
open Go.Proofs.Tryz
open Go.RowKit
set_option linter.unusedVariables false
set_option linter.unusedSimpArgs false
theorem tK {p : Prop} (h : p) : Hid p := h
def jQ (G : Nat -> Prop) (L : List Int) (W : World) (v : Value) : Prop :=
 ∃ b o cap, v = .slice (some ⟨b, o, none⟩) L.length cap /\ 0 < L.length /\ L.length <= cap /\ cap <= maxLen /\ G b /\ b < W.heap.size /\ ∀ i, i < L.length -> W.cell? ⟨b, o + i, none⟩ = some (.int .i64 (L.getD i 0))
theorem jQ.below {G : Nat -> Prop} {L : List Int} {W W' : World} {v : Value} (h : jQ G L W v) (hb : Below W.heap.size W W') : jQ G L W' v := by
 obtain ⟨b, o, cap, h1, h2, h3, h4, h5, h6, h7⟩ := h
 exact ⟨b, o, cap, h1, h2, h3, h4, h5, Nat.lt_of_lt_of_le h6 hb.size, fun i hi => (hb.cell (p := ⟨b, o + i, none⟩) h6).trans (h7 i hi)⟩
def lp (f : Int -> Option (Option (List Int))) : Nat -> Int -> Option (Option (List Int))
 | 0, _ => some none
 | c + 1, x => match f x with
  | some none => lp f c (x + 1)
  | r => r
def zV (wy : List Int -> Int -> Option Bool) (n : Int) : Nat -> List Int -> Option (Option (List Int))
 | 0, L => some (cond (decide (L.getLastD 0 = n)) (some L) none)
 | k + 1, L => cond (decide (L.getLastD 0 * 2 ^ (k + 1) < n)) (some none) (lp (fun x => match wy L x with
  | none => none
  | some false => some none
  | some true => zV wy n k (L ++ [x])) (min n (2 * L.getLastD 0) - L.getLastD 0).toNat (L.getLastD 0 + 1))
def VP (G : Nat -> Prop) (W : World) (r : Option (List Int)) (e : Ending) (W' : World) : Prop :=
 Below W.heap.size W W' /\ match r with
  | none => e = .returned (.tuple #[])
  | some out => ∃ u, e = .panicked [{ v := .iface 31 u, recovered := false }] /\ jQ G out W' u
section
variable (G : Nat -> Prop) (K : World -> Prop) (n : Int) (sp : Option Addr) (sc : Nat)
 (hclone : ∀ W L v, K W -> jQ G L W v -> L.length <= 20 -> Calls prog 43 #[v] W fun e W' => Below W.heap.size W W' /\ ∃ u, e = .returned u /\ jQ G L W' u)
include hclone in
set_option maxRecDepth 100000 in
theorem as2 (W : World) (L : List Int) (v : Value) (hK : K W) (hv : jQ G L W v) (h20 : L.length <= 20) : Calls prog 161 #[v] W fun e W' => Below W.heap.size W W' /\ ∃ u, e = .panicked [{ v := .iface 31 u, recovered := false }] /\ jQ G L W' u := by
 have hc := hclone W L v hK hv h20
 obtain ⟨b, o, cap, rfl, _⟩ := hv
 clear hclone
 go_enter func161, Tryz.ntmps161
 go_wp2_with (first | (refine hc.mono ?_; clear hc; rintro e w' ⟨hb, u, rfl, hu⟩))
 show Oper.upon _ _ _ _ _ (.halt (.panic (.iface 31 u)) w')
 exact ⟨rfl, hb, u, rfl, hu⟩
set_option maxRecDepth 100000 in
set_option maxHeartbeats 1000000 in
theorem aG9 (W : World) (L : List Int) (v : Value) (hK : K W) (hv : jQ G L W v) (hn : L.getLastD 0 ≠ n) : Calls prog 160 #[.agg #[.int .i64 n, .slice sp 0 sc, .bool false], v, .int .i64 0, .func (.func 161) #[] #[]] W fun e W' => VP G W none e W' := by
 obtain ⟨b, o, cap, rfl, h2, h3, h4, h5, h6, h7⟩ := hv
 have hl : W.cell? ⟨b, o + (L.length - 1), none⟩ = some (.int .i64 (L.getLastD 0)) := by
  rw [h7 _ (by omega), List.getLastD_eq_getLast?, List.getLast?_eq_getElem?]; simp [List.getD_eq_getElem?_getD]
 obtain ⟨last, hlast⟩ : ∃ last, last = L.getLastD 0 := ⟨_, rfl⟩
 rw [<- hlast] at hl hn
 obtain ⟨m, hm⟩ : ∃ m, m = L.length := ⟨_, rfl⟩
 rw [<- hm] at h2 h3 hl ⊢
 clear h7 hlast hm
 have hne : (last == n) = false := by simpa using hn
 unfold maxLen at h4
 go_enter func160, Tryz.ntmps160
 go_wp2_with fail
 go_region
 go_wp2
 exact bodyPost_ret (v := .tuple #[]) (by simp [results, Tryz.results160, go_sem]) rfl ⟨by repeat (first | exact Below.refl _ _ | apply Below.drew | refine Below.alloc ?_ (by simp) _), rfl⟩
include hclone in
set_option maxRecDepth 100000 in
set_option maxHeartbeats 1000000 in
theorem aG8 (hKb : ∀ W W', K W -> Below W.heap.size W W' -> K W') (W : World) (L : List Int) (v : Value) (hK : K W) (hv : jQ G L W v) (h20 : L.length <= 20) (hn : L.getLastD 0 = n) : Calls prog 160 #[.agg #[.int .i64 n, .slice sp 0 sc, .bool false], v, .int .i64 0, .func (.func 161) #[] #[]] W fun e W' => VP G W (some L) e W' := by
 have hB1 : Below W.heap.size W (W.alloc (.cells #[.int .i64 n, .slice sp 0 sc, .bool false] 215)) := (Below.refl _ _).alloc (Nat.le_refl _) _
 have hc := as2 G K hclone _ L v (hKb _ _ hK hB1) (hv.below hB1) h20
 obtain ⟨b, o, cap, rfl, h2, h3, h4, h5, h6, h7⟩ := hv
 have hl : W.cell? ⟨b, o + (L.length - 1), none⟩ = some (.int .i64 n) := by
  rw [h7 _ (by omega), <- hn, List.getLastD_eq_getLast?, List.getLast?_eq_getElem?]; simp [List.getD_eq_getElem?_getD]
 obtain ⟨m, hm⟩ : ∃ m, m = L.length := ⟨_, rfl⟩
 rw [<- hm] at h2 h3 hl hc ⊢
 clear h7 hm hclone hKb
 unfold maxLen at h4
 go_enter func160, Tryz.ntmps160
 go_wp2_with (first | (refine hc.mono ?_; clear hc; rintro e w' ⟨hb, u, rfl, hu⟩))
 exact ⟨rfl, hB1.trans (hb.mono hB1.size), u, rfl, hu⟩
theorem al6 {last st : Int} (h1 : 1 <= last) (h46 : last <= 46) (hst : 1 <= st) (afO : st <= 7) : wrap64 (last * 2 ^ st.toNat) = last * 2 ^ st.toNat := by
 have : st = 1 \/ st = 2 \/ st = 3 \/ st = 4 \/ st = 5 \/ st = 6 \/ st = 7 := by omega
 unfold wrap64
 rcases this with rfl | rfl | rfl | rfl | rfl | rfl | rfl <;> simp <;> omega
set_option maxRecDepth 100000 in
set_option maxHeartbeats 1000000 in
theorem aHA (W : World) (L : List Int) (v : Value) (st : Int) (hst : 1 <= st) (afO : st <= 7) (hK : K W) (hv : jQ G L W v) (h1 : 1 <= L.getLastD 0) (h46 : L.getLastD 0 <= 46) (hn : L.getLastD 0 * 2 ^ st.toNat < n) : Calls prog 160 #[.agg #[.int .i64 n, .slice sp 0 sc, .bool false], v, .int .i64 st, .func (.func 161) #[] #[]] W fun e W' => VP G W none e W' := by
 obtain ⟨b, o, cap, rfl, h2, h3, h4, h5, h6, h7⟩ := hv
 have hl : W.cell? ⟨b, o + (L.length - 1), none⟩ = some (.int .i64 (L.getLastD 0)) := by
  rw [h7 _ (by omega), List.getLastD_eq_getLast?, List.getLast?_eq_getElem?]; simp [List.getD_eq_getElem?_getD]
 obtain ⟨last, hlast⟩ : ∃ last, last = L.getLastD 0 := ⟨_, rfl⟩
 rw [<- hlast] at hl hn h1 h46
 obtain ⟨m, hm⟩ : ∃ m, m = L.length := ⟨_, rfl⟩
 rw [<- hm] at h2 h3 hl ⊢
 clear h7 hlast hm
 have hs0 : (st == 0) = false := by simp; omega
 have hd : decide (wrap64 (last * 2 ^ st.toNat) < n) = true := by rw [al6 h1 h46 hst afO]; simpa using hn
 clear hn
 unfold maxLen at h4
 go_enter func160, Tryz.ntmps160
 go_wp2_with fail
 go_region
 go_wp2
 exact bodyPost_ret (v := .tuple #[]) (by simp [results, Tryz.results160, go_sem]) rfl ⟨by repeat (first | exact Below.refl _ _ | apply Below.drew | refine Below.alloc ?_ (by simp) _), rfl⟩
theorem rP {w : World} {b o t : Nat} {cs : Array Value} {fz : Nat × Nat} (h : w.heap[b]? = some (.cells cs t fz)) : w.cell? ⟨b, o, none⟩ = cs[o]? := by
 simp [World.cell?, h]
theorem aqT (vK : ∀ W, K W -> ∀ b, W.heap.size <= b -> G b) {w2 : World} {b o cap : Nat} {L : List Int} {x : Int} (hK : K w2) (hv : jQ G L w2 (.slice (some ⟨b, o, none⟩) L.length cap)) (hlen : L.length <= 19) :
  ∃ vn W4, (Builtin.append_ #[31, 31] 31 #[.slice (some ⟨b, o, none⟩) L.length L.length, .slice (some ⟨w2.heap.size, 0, none⟩) 1 1]).run prog (w2.drew.alloc (.cells #[.int .i64 x] 3)) = .ok vn W4 /\ Below w2.heap.size w2 W4 /\ jQ G (L ++ [x]) W4 vn := by
 obtain ⟨b', o', cap', h1, h2, h3, h4, h5, h6, h7⟩ := hv
 simp only [Value.slice.injEq, Option.some.injEq, Addr.mk.injEq] at h1
 obtain ⟨⟨rfl, rfl, _⟩, _, rfl⟩ := h1
 have hb1 : Below w2.heap.size w2 (w2.drew.alloc (.cells #[.int .i64 x] 3)) := ((Below.refl _ _).drew).alloc (by simp) _
 have hsz : (w2.drew.alloc (.cells #[.int .i64 x] 3)).heap.size = w2.heap.size + 1 := by simp
 obtain ⟨cap2, cs2, hrun, k1, k2, k3⟩ := acE (W1 := w2.drew.alloc (.cells #[.int .i64 x] 3)) (p := some ⟨b, o, none⟩) (L := L) (g := w2.heap.size) (j := x) (fun _ => ⟨b, o, rfl, fun i hi => (hb1.cell (p := ⟨b, o + i, none⟩) h6).trans (h7 i hi)⟩)
  ((rP (heap_alloc_new w2.drew _)).trans rfl) (by omega)
 obtain ⟨W3, hW3⟩ : ∃ W3, W3 = w2.drew.alloc (.cells #[.int .i64 x] 3) := ⟨_, rfl⟩
 rw [<- hW3] at hb1 hsz hrun ⊢
 have hnew : (W3.drew.alloc (.cells cs2 3)).heap[W3.heap.size]? = some (.cells cs2 3) := heap_alloc_new W3.drew _
 refine ⟨_, _, hrun, hb1.drew.alloc (by simp [hsz]) _, W3.heap.size, 0, cap2, by simp, by simp, by simpa using k1, k2, vK w2 hK _ (by omega), by simp, fun i hi => ?_⟩
 rw [rP hnew, Nat.zero_add]
 exact k3 i (by simpa using hi)
def UQ (hi : Int) : Value -> Nat
 | .int _ i => (hi + 1 - i).toNat
 | _ => 0
def LR (W1 : World) (f : Int -> Option (Option (List Int))) (hi last : Int) (r : Option (List Int)) (p : Value) (wr : World) : Prop :=
 ∃ x : Int, p = .int .i64 x /\ last + 1 <= x /\ lp f (hi + 1 - x).toNat x = some r /\ Below W1.heap.size W1 wr
theorem ayP {f : Int -> Option (Option (List Int))} {hi x : Int} (h : x <= hi) : lp f (hi + 1 - x).toNat x = match f x with
  | some none => lp f (hi + 1 - (x + 1)).toNat (x + 1)
  | r => r := by
 have e : (hi + 1 - x).toNat = (hi + 1 - (x + 1)).toNat + 1 := by omega
 rw [e]; rfl
set_option maxRecDepth 100000 in
set_option maxHeartbeats 400000 in
theorem aG' (hKb : ∀ W W', K W -> Below W.heap.size W W' -> K W') (vK : ∀ W, K W -> ∀ b, W.heap.size <= b -> G b) (wy : List Int -> Int -> Option Bool)
  (BR : ∀ W L v x is, K W -> jQ G L W v -> wy L x = some is -> Calls prog 166 #[v, .int .i64 x] W fun e W' => Below W.heap.size W W' /\ ∃ i j : Int, e = .returned (.tuple #[.agg #[.int .i64 i, .int .i64 j], .bool is]))
  (hcont : ∀ W x, K W -> Calls prog 41 #[.slice sp 0 sc, .int .i64 x] W fun e W' => Below W.heap.size W W' /\ e = .returned (.bool false))
  (hn1 : 1 <= n) (JD : n <= 46) (k : Nat) (hk : k < 7)
  (ih : ∀ (L : List Int) (v : Value) (W : World) (r : Option (List Int)), K W -> jQ G L W v -> 1 <= L.getLastD 0 -> L.getLastD 0 <= 46 -> L.length + k <= 20 -> zV wy n k L = some r ->
   Calls prog 160 #[.agg #[.int .i64 n, .slice sp 0 sc, .bool false], v, .int .i64 k, .func (.func 161) #[] #[]] W fun e W' => VP G W r e W')
  (W : World) (L : List Int) (v : Value) (r : Option (List Int)) (hK : K W) (hv : jQ G L W v) (h1 : 1 <= L.getLastD 0) (h46 : L.getLastD 0 <= 46) (hlen : L.length + (k + 1) <= 20) (hr : zV wy n (k + 1) L = some r) (hn : ¬ L.getLastD 0 * 2 ^ (k + 1) < n) :
  Calls prog 160 #[.agg #[.int .i64 n, .slice sp 0 sc, .bool false], v, .int .i64 ((k : Int) + 1), .func (.func 161) #[] #[]] W fun e W' => VP G W r e W' := by
 have hvR := hv
 obtain ⟨b, o, cap, rfl, h2, h3, h4, h5, h6, h7⟩ := hv
 have hl : W.cell? ⟨b, o + (L.length - 1), none⟩ = some (.int .i64 (L.getLastD 0)) := by
  rw [h7 _ (by omega), List.getLastD_eq_getLast?, List.getLast?_eq_getElem?]; simp [List.getD_eq_getElem?_getD]
 rw [zV, decide_eq_false hn, cond_false] at hr
 obtain ⟨f, hf⟩ : ∃ f : Int -> Option (Option (List Int)), f = fun x => match wy L x with
  | none => none
  | some false => some none
  | some true => zV wy n k (L ++ [x]) := ⟨_, rfl⟩
 rw [<- hf] at hr
 obtain ⟨last, hlast⟩ : ∃ last, last = L.getLastD 0 := ⟨_, rfl⟩
 rw [<- hlast] at hl hn h1 h46 hr
 obtain ⟨hi, hhi⟩ : ∃ hi, hi = min n (2 * last) := ⟨_, rfl⟩
 have hr' : lp f (hi + 1 - (last + 1)).toNat (last + 1) = some r := by rw [hhi, <- hr]; congr 1; omega
 clear hr
 have hs0 : ((k : Int) + 1 == 0) = false := by simp; omega
 have hd : decide (wrap64 (last * 2 ^ (k + 1)) < n) = false := by
  have := al6 (st := (k : Int) + 1) h1 h46 (by omega) (by omega)
  have e : ((k : Int) + 1).toNat = k + 1 := by omega
  rw [e] at this
  rw [this]; simpa using hn
 clear hn
 obtain ⟨W1, hW1⟩ : ∃ W1, W1 = W.alloc (.cells #[.int .i64 n, .slice sp 0 sc, .bool false] 215) := ⟨_, rfl⟩
 have hB1 : Below W.heap.size W W1 := by rw [hW1]; exact (Below.refl _ _).alloc (Nat.le_refl _) _
 have hs1 : W1.heap.size = W.heap.size + 1 := by rw [hW1]; simp
 have hc1 : W1.heap[W.heap.size]? = some (.cells #[.int .i64 n, .slice sp 0 sc, .bool false] 215) := by rw [hW1]; exact heap_alloc_new W _
 have hlm := tK h3
 have hh4 := h4
 unfold maxLen at hh4
 have hrest := tK hr'
 have aJ7 := tK hlast
 have Tu := tK hhi
 have Ed := tK hf
 have hh7 := tK h7
 clear hr' hlast hhi hf h7
 go_enter func160, Tryz.ntmps160
 go_wp2_with fail
 go_region
 go_wp2_with fail
 rw [<- hW1]
 clear hW1
 go_loopw [9] (fun p wr => LR W1 f hi last r p wr) (fun p _ => UQ hi p)
 case atStart => exact ⟨last + 1, rfl, Int.le_refl _, hrest.out, (Below.refl _ _).drew⟩
 case round =>
  obtain ⟨x, rfl, hx1, hx3, hx4⟩ := hrel
  have xU : wr.heap[W.heap.size]? = some (.cells #[.int .i64 n, .slice sp 0 sc, .bool false] 215) := (hx4.block _ (by omega)).trans hc1
  have cn : wr.cell? ⟨W.heap.size, 0, none⟩ = some (.int .i64 n) := (rP xU).trans rfl
  have cs : wr.cell? ⟨W.heap.size, 1, none⟩ = some (.slice sp 0 sc) := (rP xU).trans rfl
  have cr : wr.cell? ⟨W.heap.size, 2, none⟩ = some (.bool false) := (rP xU).trans rfl
  have hsz : W.heap.size < wr.heap.size := by have := hx4.size; omega
  have Sz := hB1
  have hs1' : W.heap.size <= W1.heap.size := by omega
  have hKr : K wr := hKb _ _ (hKb _ _ hK hB1) hx4
  have wM := (hvR.below hB1).below hx4
  by_cases hlt : x <= hi
  ·rw [ayP hlt, show f x = _ from congrFun Ed.out x] at hx3
   have aw4 : x <= 46 := by have := Tu.out; omega
   have hmx : (if 2 * last < n then 2 * last else n) = hi := by have := Tu.out; split <;> omega
   cases hw : wy L x with
   | none => simp [hw] at hx3
   | some is =>
    have hwc := BR wr L _ x is hKr wM hw
    cases is with
    | false =>
     simp only [hw] at hx3
     have hh3 := tK hx3
     clear hx3 hw xU hc1 hB1 hs1 ih hcont BR hKb vK Ed wM hvR hd hs0
     go_wp2_with (first | (go_at_call 166; refine hwc.mono ?_; clear hwc; rintro e w' ⟨hb, i, j, rfl⟩; have cn' := (hb.cell (p := ⟨W.heap.size, 0, none⟩) hsz).trans cn; have cs' := (hb.cell (p := ⟨W.heap.size, 1, none⟩) hsz).trans cs; have cr' := (hb.cell (p := ⟨W.heap.size, 2, none⟩) hsz).trans cr; have hbs := hb.size; have hsz' : W.heap.size < w'.heap.size := Nat.lt_of_lt_of_le hsz hb.size; have hne' : ¬ W.heap.size = w'.heap.size := by omega))
     exact ⟨⟨x + 1, rfl, by omega, hh3.out, hx4.trans ((hb.alloc hbs _).mono hx4.size)⟩, by simp only [UQ]; omega⟩
    | true =>
     simp only [hw] at hx3
     cases hv2 : zV wy n k (L ++ [x]) with
     | none => simp [hv2] at hx3
     | some r2 =>
      simp only [hv2] at hx3
      have NP : ∀ w2, Below wr.heap.size wr w2 -> ∃ vn W4, (Builtin.append_ #[31, 31] 31 #[.slice (some ⟨b, o, none⟩) L.length L.length, .slice (some ⟨w2.heap.size, 0, none⟩) 1 1]).run prog (w2.drew.alloc (.cells #[.int .i64 x] 3)) = .ok vn W4 /\ Below w2.heap.size w2 W4 /\
        Calls prog 160 #[.agg #[.int .i64 n, .slice sp 0 sc, .bool false], vn, .int .i64 k, .func (.func 161) #[] #[]] W4 fun e W' => VP G W4 r2 e W' := fun w2 hb2 => by
       obtain ⟨vn, W4, e1, e2, e3⟩ := aqT G K vK (x := x) (hKb wr _ hKr hb2) (wM.below hb2) (by omega)
       exact ⟨vn, W4, e1, e2, ih _ vn W4 r2 (hKb w2 _ (hKb wr _ hKr hb2) e2) e3 (by simp; omega) (by simpa using aw4) (by simp; omega) hv2⟩
      have hh3 := tK hx3
      clear hx3 hw hv2 xU hc1 hB1 hs1 BR vK Ed wM hvR hd hs0 ih
      go_upto_region 10 with (first
       | (go_at_call 166; refine hwc.mono ?_; clear hwc; rintro e w' ⟨hb, i, j, rfl⟩; have cn' := (hb.cell (p := ⟨W.heap.size, 0, none⟩) hsz).trans cn; have cs' := (hb.cell (p := ⟨W.heap.size, 1, none⟩) hsz).trans cs; have cr' := (hb.cell (p := ⟨W.heap.size, 2, none⟩) hsz).trans cr; have hbs := hb.size; have hsz' : W.heap.size < w'.heap.size := Nat.lt_of_lt_of_le hsz hb.size; have hne' : ¬ W.heap.size = w'.heap.size := by omega)
       | (go_at_call 41; refine (hcont _ _ (hKb wr _ hKr (hb.alloc hbs _))).mono ?_; rintro e w2 ⟨hb2, rfl⟩))
      have hB3 : Below wr.heap.size wr w2 := (hb.alloc hbs _).trans (hb2.mono (by simp; omega))
      have hs2 := hB3.size
      have hsz2 : W.heap.size < w2.heap.size := Nat.lt_of_lt_of_le hsz hB3.size
      have hne2 : ¬ W.heap.size = w2.heap.size := by omega
      have cn2 := (hB3.cell (p := ⟨W.heap.size, 0, none⟩) hsz).trans cn
      have cs2 := (hB3.cell (p := ⟨W.heap.size, 1, none⟩) hsz).trans cs
      have cr2 := (hB3.cell (p := ⟨W.heap.size, 2, none⟩) hsz).trans cr
      obtain ⟨vn, W4, hrun, hb4, BQ⟩ := NP w2 hB3
      have cn4 := (hb4.cell (p := ⟨W.heap.size, 0, none⟩) hsz2).trans cn2
      have cs4 := (hb4.cell (p := ⟨W.heap.size, 1, none⟩) hsz2).trans cs2
      have cr4 := (hb4.cell (p := ⟨W.heap.size, 2, none⟩) hsz2).trans cr2
      have hall : Hid (Below W.heap.size W W4) := ((Sz.trans (hx4.mono (by omega))).trans (hB3.mono (by omega))).trans (hb4.mono (by omega))
      have ae' : Hid (Below W1.heap.size W1 W4) := (hx4.trans (hB3.mono hx4.size)).trans (hb4.mono (by have := hx4.size; omega))
      have awG : W1.heap.size <= W4.heap.size := ae'.out.size
      have awF : W.heap.size <= W4.heap.size := hall.out.size
      have hw1 : IntKind.i64.wrap ((k : Int) + 1 - 1) = (k : Int) := by rw [Int.add_sub_cancel]; exact IntWalk.i64_in _ (by omega)
      have hw2 : IntKind.i64.wrap (k : Int) = (k : Int) := IntWalk.i64_in _ (by omega)
      clear hcont NP hb hb2 cn' cs' cr' cn cs cr
      cases r2 with
      | none =>
       go_region_law (first
        | (refine alH (by rfl) (.tmp 81) (.tmp 83) 31 (by rfl) _ _ (by rfl) (by rfl) hrun ?_)
        | (refine alI (A := #[.tmp 80]) (ts := #[31]) (p := some ⟨b, o, none⟩) h3 h4 ?_ ?_ ?_ ?_; rfl; rfl; (focus (simp [Act.eval, Act.put])))
        | (refine aD1 (A := #[.tmp 79, .tmp 84, .tmp 86, .tmp 87]) (ts := #[215, 31, 3, 234]) BQ ?_ ?_ ?_ ?_; rfl; rfl; (focus (simp [Act.eval, Act.put, hw1, hw2])); rintro e w5 ⟨hb5, rfl⟩))
       all_goals go_wp2
       all_goals exact ⟨⟨x + 1, rfl, by omega, hh3.out, ae'.out.trans (hb5.mono awG)⟩, by simp only [UQ]; omega⟩
      | some out =>
       obtain rfl : r = some out := (Option.some.inj hh3.out).symm
       go_region_law (first
        | (refine alH (by rfl) (.tmp 81) (.tmp 83) 31 (by rfl) _ _ (by rfl) (by rfl) hrun ?_)
        | (refine alI (A := #[.tmp 80]) (ts := #[31]) (p := some ⟨b, o, none⟩) h3 h4 ?_ ?_ ?_ ?_; rfl; rfl; (focus (simp [Act.eval, Act.put])))
        | (refine aD2 (A := #[.tmp 79, .tmp 84, .tmp 86, .tmp 87]) (ts := #[215, 31, 3, 234]) BQ ?_ ?_ ?_ ?_ ?_; rfl; rfl; (focus (simp [Act.eval, Act.put, hw1, hw2])); (focus (rintro e w5 ⟨hb5, u, rfl, hu⟩; exact ⟨_, rfl, rfl, hall.out.trans (hb5.mono awF), u, rfl, hu⟩)); intro hF))
       all_goals exact hF.out.elim
  ·have hz : (hi + 1 - x).toNat = 0 := by omega
   rw [hz] at hx3
   obtain rfl : r = none := (Option.some.inj hx3).symm
   have hmx : (if 2 * last < n then 2 * last else n) = hi := by have := Tu.out; split <;> omega
   have hxx : hi < x := by omega
   have hfin : Below W.heap.size W wr := hB1.trans (hx4.mono hs1')
   clear hx3 hz xU hc1 hB1 hs1 ih hcont BR hKb vK Ed wM hvR hd hs0
   go_wp2
   exact bodyPost_end (v := .tuple #[]) (by simp [results, Tryz.results160, go_sem]) rfl ⟨hfin, rfl⟩
end
end Go.Proofs.YtfopcfnggdonkaaGreatDoor
