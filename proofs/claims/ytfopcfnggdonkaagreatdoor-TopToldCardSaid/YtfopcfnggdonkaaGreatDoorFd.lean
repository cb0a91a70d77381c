/-
 The folds of a strip's heights, written down: a contract, by the library's contracts for strings.Builder.
-/
import Derived.Test.YtfopcfnggdonkaaGreatDoorF4
import Derived.Test.YtfopcfnggdonkaaGreatDoorShelf
import Derived.BigCall
namespace Go.Proofs.YtfopcfnggdonkaaGreatDoor
open Go.Proofs.Tryz
open Go.RowKit
set_option linter.unusedVariables false
set_option linter.unusedSimpArgs false
def y9 (h : List Int) (i : Nat) : Int := if (h.getD i 0 < h.getD (i + 1) 0 ↔ i % 2 = 0) then 118 else 109
def iH (h : List Int) (m : Nat) : List UInt8 := (List.range m).map fun i => UInt8.ofNat (y9 h i).toNat
theorem au0 (h : List Int) (m : Nat) : iH h (m + 1) = iH h m ++ [UInt8.ofNat (y9 h m).toNat] := by simp [iH, List.range_succ]
theorem asH (h : List Int) (i : Nat) : Lib.byteCells [UInt8.ofNat (y9 h i).toNat] = [.int .u8 (y9 h i)] := by
 unfold y9
 split <;> rfl
def cellsOf (h : List Int) : Array Value := (h.map (Value.int .i64)).toArray
theorem acP {h : List Int} {B : Nat} {W : World} (hb : W.heap[B]? = some (.cells (cellsOf h) 211)) {i : Nat} (hi : i < h.length) : W.cell? ⟨B, i, none⟩ = some (.int .i64 (h.getD i 0)) := by
 rw [rP hb]
 simp [cellsOf, hi]
structure FI (h : List Int) (w W : World) (m : Nat) : Prop where
 bl : Lib.IsBuilder 109 5 (w.heap.size + 1) (w.heap.size + 1) (Lib.byteCells (iH h m)) W
 box : W.heap[w.heap.size]? = some (.cells (cellsOf h) 211)
 bel : Below w.heap.size w W
 sz : w.heap.size + 1 <= W.heap.size
theorem arF {B b : Nat} {bs : List Value} {W W' : World} (h : Lib.IsBuilder 109 5 B b bs W) (hk : ∀ k, B <= k -> k < W.heap.size -> W'.heap[k]? = W.heap[k]?) : Lib.IsBuilder 109 5 B b bs W' := by
 have key : ∀ p, Lib.BuilderAt 109 5 B b p bs W -> Lib.BuilderAt 109 5 B b p bs W' := fun p ⟨h1, v, h2, h3, h4⟩ => by
  refine ⟨h1, v, (hk b h1 (Array.getElem?_eq_some_iff.1 h2).1).trans h2, ⟨h3.1, ?_⟩, h4⟩
  rcases h3.2 with h | ⟨g, cap, cur, a1, a2, a3, a4⟩
  ·exact .inl h
  ·exact .inr ⟨g, cap, cur, a1, a2, (hk g a2 (Array.getElem?_eq_some_iff.1 a3).1).trans a3, a4⟩
 exact h.imp (key _) (key _)
theorem FI.drew {h : List Int} {w W : World} {m : Nat} (hI : FI h w W m) : FI h w W.drew m :=
 ⟨arF hI.bl fun _ _ _ => rfl, hI.box, hI.bel.drew, hI.sz⟩
theorem FI.write {h : List Int} {w W W1 : World} {m : Nat} (hI : FI h w W m) (hb : Lib.BuilderAt 109 5 (w.heap.size + 1) (w.heap.size + 1) (.pointer (some ⟨w.heap.size + 1, 0, none⟩)) (Lib.byteCells (iH h m) ++ [.int .u8 (y9 h m)]) W1) (b2 : Below (w.heap.size + 1) W W1) : FI h w W1 (m + 1) := by
 refine ⟨.inr ?_, (b2.block _ (by omega)).trans hI.box, hI.bel.trans (b2.mono (by omega)), Nat.le_trans hI.sz b2.size⟩
 rw [au0, Lib.byteCells_append, asH]
 exact hb
set_option maxHeartbeats 1000000 in
set_option maxRecDepth 100000 in
theorem au4 (h : List Int) (h7 : h.length = 7) (n : Nat) (hn1 : 1 <= n) (hn7 : n <= 7) (w : World) : Calls prog 142 #[.agg (cellsOf h), .int .i64 n] w fun e W => e = .returned (.string ⟨⟨iH h (n - 1)⟩⟩) /\ Below w.heap.size w W := by
 obtain ⟨a, b, c, d, e, f, g, hh⟩ : ∃ a b c d e f g, h = [a, b, c, d, e, f, g] := by
  match h, h7 with
  | [a, b, c, d, e, f, g], _ => exact ⟨a, b, c, d, e, f, g, rfl⟩
 have hcs : cellsOf h = #[.int .i64 a, .int .i64 b, .int .i64 c, .int .i64 d, .int .i64 e, .int .i64 f, .int .i64 g] := by rw [hh]; rfl
 have h0 : FI h w ((w.alloc (.cells (cellsOf h) 211)).alloc (.cells #[.pointer none, .slice none 0 0] 109)) 0 := by
  refine ⟨?_, ?_, ((Below.refl _ _).alloc (Nat.le_refl _) _).alloc (by simp) _, by simp⟩
  ·have := Lib.fresh_isBuilder 109 5 (w.alloc (.cells (cellsOf h) 211))
   simpa [iH, Lib.byteCells] using this
  ·rw [Below.heap_alloc _ _ _ (by simp)]; exact heap_alloc_new w _
 rw [hcs] at h0 ⊢
 obtain ⟨W0, hW0⟩ : ∃ W0, W0 = (w.alloc (.cells #[.int .i64 a, .int .i64 b, .int .i64 c, .int .i64 d, .int .i64 e, .int .i64 f, .int .i64 g] 211)).alloc (.cells #[.pointer none, .slice none 0 0] 109) := ⟨_, rfl⟩
 rw [<- hW0] at h0
 clear hcs hh
 go_enter func142, Tryz.ntmps142
 go_wp2_with fail
 rw [<- hW0]
 clear hW0
 go_loopw [9] (fun p wr => ∃ m : Nat, p = .int .i64 m /\ m <= n - 1 /\ FI h w wr m) (fun p _ => (9 - intOf p).toNat)
 case atStart => exact ⟨0, rfl, Nat.zero_le _, h0⟩
 case round =>
  obtain ⟨m, rfl, hm, hI⟩ := hrel
  by_cases hlt : m < n - 1
  ·have hlt' : decide ((m : Int) < (n : Int) - 1) = true := decide_eq_true (by omega)
   have ca := acP hI.box (i := m) (by omega)
   have cb := acP hI.box (i := m + 1) (by omega)
   have hsz := hI.sz
   have hcr : y9 h m = if (h.getD m 0 < h.getD (m + 1) 0 ↔ m % 2 = 0) then 118 else 109 := rfl
   obtain ⟨x, hx⟩ : ∃ x, x = h.getD m 0 := ⟨_, rfl⟩
   obtain ⟨y, hy⟩ : ∃ y, y = h.getD (m + 1) 0 := ⟨_, rfl⟩
   rw [<- hx] at ca hcr
   rw [<- hy] at cb hcr
   clear hx hy h0
   by_cases h1 : x < y <;> by_cases h2 : m % 2 = 0
   ·have e1 : decide (x < y) = true := decide_eq_true h1
    have e2 : ((m : Int) % 2 == 0) = true := by simp; omega
    have zF : y9 h m = 118 := by rw [hcr, if_pos (by simp [h1, h2])]
    have hD := hI.drew
    have hwb := Tryz.Builder_WriteByte (w.heap.size + 1) (w.heap.size + 1) (Lib.byteCells (iH h m)) 118 wr.drew hD.bl (by rw [Lib.byteCells_length]; simp [iH]; omega) hD.sz
    have hw := fun W1 hb b2 => hD.write (W1 := W1) (by rw [zF]; exact hb) b2
    have hD' := tK hD
    clear hcr zF hI hD
    go_wp2_with fail
    go_region
    go_wp2_with (first | (go_at_call 52; refine hwb.mono ?_; clear hwb; rintro e W1 ⟨rfl, hb, b2⟩))
    exact ⟨⟨m + 1, by simp, by omega, hw W1 hb b2⟩, by simp [intOf]; omega⟩
   ·have e1 : decide (x < y) = true := decide_eq_true h1
    have e2 : ((m : Int) % 2 == 0) = false := by simp; omega
    have zF : y9 h m = 109 := by rw [hcr, if_neg (by simp [h1, h2])]
    have hD := hI.drew
    have hwb := Tryz.Builder_WriteByte (w.heap.size + 1) (w.heap.size + 1) (Lib.byteCells (iH h m)) 109 wr.drew hD.bl (by rw [Lib.byteCells_length]; simp [iH]; omega) hD.sz
    have hw := fun W1 hb b2 => hD.write (W1 := W1) (by rw [zF]; exact hb) b2
    have hD' := tK hD
    clear hcr zF hI hD
    go_wp2_with fail
    go_region
    go_wp2_with (first | (go_at_call 52; refine hwb.mono ?_; clear hwb; rintro e W1 ⟨rfl, hb, b2⟩))
    exact ⟨⟨m + 1, by simp, by omega, hw W1 hb b2⟩, by simp [intOf]; omega⟩
   ·have e1 : decide (x < y) = false := decide_eq_false h1
    have e2 : ((m : Int) % 2 == 0) = true := by simp; omega
    have zF : y9 h m = 109 := by rw [hcr, if_neg (by simp [h1, h2])]
    have hD := hI.drew
    have hwb := Tryz.Builder_WriteByte (w.heap.size + 1) (w.heap.size + 1) (Lib.byteCells (iH h m)) 109 wr.drew hD.bl (by rw [Lib.byteCells_length]; simp [iH]; omega) hD.sz
    have hw := fun W1 hb b2 => hD.write (W1 := W1) (by rw [zF]; exact hb) b2
    have hD' := tK hD
    clear hcr zF hI hD
    go_wp2_with fail
    go_region
    go_wp2_with (first | (go_at_call 52; refine hwb.mono ?_; clear hwb; rintro e W1 ⟨rfl, hb, b2⟩))
    exact ⟨⟨m + 1, by simp, by omega, hw W1 hb b2⟩, by simp [intOf]; omega⟩
   ·have e1 : decide (x < y) = false := decide_eq_false h1
    have e2 : ((m : Int) % 2 == 0) = false := by simp; omega
    have zF : y9 h m = 118 := by rw [hcr, if_pos (by simp [h1, h2])]
    have hD := hI.drew
    have hwb := Tryz.Builder_WriteByte (w.heap.size + 1) (w.heap.size + 1) (Lib.byteCells (iH h m)) 118 wr.drew hD.bl (by rw [Lib.byteCells_length]; simp [iH]; omega) hD.sz
    have hw := fun W1 hb b2 => hD.write (W1 := W1) (by rw [zF]; exact hb) b2
    have hD' := tK hD
    clear hcr zF hI hD
    go_wp2_with fail
    go_region
    go_wp2_with (first | (go_at_call 52; refine hwb.mono ?_; clear hwb; rintro e W1 ⟨rfl, hb, b2⟩))
    exact ⟨⟨m + 1, by simp, by omega, hw W1 hb b2⟩, by simp [intOf]; omega⟩
  ·obtain rfl : m = n - 1 := by omega
   have hlt' : decide (((n - 1 : Nat) : Int) < (n : Int) - 1) = false := decide_eq_false (by omega)
   have hst := Tryz.Builder_String_any (w.heap.size + 1) (w.heap.size + 1) (iH h (n - 1)) wr hI.bl hI.sz
   have hbel := hI.bel
   clear hI h0
   go_wp2_with (first | (go_at_call 53; refine hst.mono ?_; clear hst; rintro e W1 ⟨rfl, b1⟩))
   go_ret
   exact ⟨rfl, hbel.trans (b1.mono (by omega))⟩
def Le (h : List Int) (n : Int) : Option (List UInt8) := cond (decide (h.length = 7) && decide (1 <= n /\ n <= 7)) (some (iH h (n.toNat - 1))) none
theorem auK (xs : Array Value) (w : World) : (callFunc 142 xs).run prog w = .ok (.enter 142 xs) w := Dq func142 (by kernel_rfl) (by kernel_rfl) xs w
theorem aqN {h : List Int} {cs : Array Value} (hl : h.length = 7) (h1 : cs.size = 7) (h2 : ∀ j, j < 7 -> cs[j]? = some (.int .i64 (h.getD j 0))) : cs = cellsOf h := by
 apply Array.ext (by simp [cellsOf, h1, hl])
 intro k q1 q2
 have e : cs[k]? = some cs[k] := Array.getElem?_eq_getElem q1
 rw [h2 k (by omega)] at e
 have e2 : (cellsOf h)[k] = .int .i64 (h.getD k 0) := by
  have : k < h.length := by omega
  simp [cellsOf, this]
 rw [e2]
 exact (Option.some.inj e).symm
theorem az8 {n : Int} (h1 : 1 <= n) (h7 : n <= 7) : ∃ m : Nat, n = m /\ 1 <= m /\ m <= 7 := ⟨n.toNat, by omega, by omega, by omega⟩
theorem ap0 : aF prog 142 (Lt Le) := by
 intro args Of x hx
 simp only [Lt] at hx
 split at hx
 ·rename_i h n
  simp only [Le] at hx
  cases hc : (decide (h.length = 7) && decide (1 <= n /\ n <= 7)) with
  | false => rw [hc] at hx; cases hx
  | true =>
   rw [hc, cond_true] at hx
   obtain rfl := Option.some.inj hx
   simp only [Bool.and_eq_true, decide_eq_true_eq] at hc
   obtain ⟨hl, hn1, hn7⟩ := hc
   refine ⟨auK, fun w F π vs hvl hF hfr hv hgl => ?_⟩
   obtain ⟨v, u, rfl⟩ : ∃ v u, vs = [v, u] := by
    match vs, hvl with
    | [a, b], _ => exact ⟨a, b, rfl⟩
   obtain ⟨cs, rfl, c0, c1⟩ := (DT.oG (t := .arr 7 (.int .i64)) rfl).1 (hv 0 _ _ rfl rfl)
   have hu : u = .int .i64 n := (DT.val_one (t := .int .i64) rfl).1 (hv 1 _ _ rfl rfl)
   subst hu
   have hcs : cs = cellsOf h := aqN hl c0 fun j hj => by
    obtain ⟨x0, a0, _, b0⟩ := c1 j (by simpa [DT.size] using hj)
    have e : x0 = .int .i64 (h.getD (j / 1) 0) := b0
    rw [a0, e, Nat.div_one]
   subst hcs
   obtain ⟨m, rfl, m1, m7⟩ := az8 hn1 hn7
   refine (au4 h hl m m1 m7 w).mono ?_
   rintro e W' ⟨rfl, hb⟩
   refine ⟨.dv .str _, _, _, π, rfl, ⟨rfl, rfl⟩, ⟨(fun id o ho => by cases ho), (fun i j g ⟨o, ho, _⟩ => by cases ho), (fun id g ⟨o, ho, _⟩ => by cases ho)⟩, (DT.val_one (t := .str) rfl).2 rfl, (fun id o ho => by cases ho), (fun id g ⟨o, ho, _⟩ => by cases ho), ⟨hb.os, hb.tape, hb.output, hb.size, fun k hk _ => ?_, fun b hb => by cases hb⟩⟩
   rcases hk with hk | hk | hk
   ·rw [Cx.blk, if_neg (by simp)]; exact hb.block k hk.2
   ·cases hk
   ·cases hk
 ·cases hx
end Go.Proofs.YtfopcfnggdonkaaGreatDoor
