/-
  slices.Insert at []press.Order as a contract.
-/
import Derived.Test.YtbblnbolabpfmaaQFI
import Derived.Test.YtbblnbolabpfmaaIns
namespace Go.Proofs.Ytbblnbolabpfmaa
open Go.RowKit
set_option linter.unusedVariables false

abbrev O3 : DT := .pair (.int .i64) (.pair (.int .i64) .unit)

def fl3 : List (Int × Int × Unit) → List Value
  | [] => []
  | x :: r => .int .i64 x.1 :: .int .i64 x.2.1 :: fl3 r

theorem fl3_len : ∀ l, (fl3 l).length = l.length * 2
  | [] => rfl
  | x :: r => by simp only [fl3, List.length_cons, fl3_len r]; omega

theorem fl3_app : ∀ a b, fl3 (a ++ b) = fl3 a ++ fl3 b
  | [], b => rfl
  | x :: r, b => by simp only [List.cons_append, fl3, fl3_app r b]

theorem fl3_take : ∀ (l : List (Int × Int × Unit)) (i : Nat), fl3 (l.take i) = (fl3 l).take (i * 2)
  | [], i => by simp [fl3]
  | x :: r, 0 => by simp [fl3]
  | x :: r, i + 1 => by
    rw [show (i + 1) * 2 = i * 2 + 1 + 1 by omega]
    simp only [List.take_succ_cons, fl3, fl3_take r i]

theorem fl3_drop : ∀ (l : List (Int × Int × Unit)) (i : Nat), fl3 (l.drop i) = (fl3 l).drop (i * 2)
  | [], i => by simp [fl3]
  | x :: r, 0 => by simp [fl3]
  | x :: r, i + 1 => by
    rw [show (i + 1) * 2 = i * 2 + 1 + 1 by omega]
    simp only [List.drop_succ_cons, fl3, fl3_drop r i]

theorem fl3_one : ∀ (l : List (Int × Int × Unit)), ∀ v ∈ fl3 l, v.oneCell' = true
  | [], v, h => by simp [fl3] at h
  | x :: r, v, h => by
    simp only [fl3, List.mem_cons] at h
    rcases h with rfl | rfl | h
    · rfl
    · rfl
    · exact fl3_one r v h

/-- A cell of an element. -/
theorem fl3_cell : ∀ (l : List (Int × Int × Unit)) (i c : Nat), i < l.length → c < 2 → ∃ u, (fl3 l)[i * 2 + c]? = some u ∧ ∀ w G, O3.cell (l.getD i O3.dflt) c w G u
  | [], i, c, h, _ => by simp at h
  | x :: r, 0, c, _, hc => by
    match c, hc with
    | 0, _ => exact ⟨.int .i64 x.1, rfl, fun w G => rfl⟩
    | 1, _ => exact ⟨.int .i64 x.2.1, rfl, fun w G => rfl⟩
  | x :: r, i + 1, c, h, hc => by
    obtain ⟨u, h1, h2⟩ := fl3_cell r i c (by simpa using h) hc
    refine ⟨u, ?_, h2⟩
    rw [show (i + 1) * 2 + c = i * 2 + c + 1 + 1 by omega]
    simpa only [fl3, List.getElem?_cons_succ] using h1

theorem O3_cell {x : Int × Int × Unit} {c : Nat} (hc : c < 2) {w w' : World} {G G' : Nat → Prop} {u v : Value} (h1 : O3.cell x c w G u) (h2 : O3.cell x c w' G' v) : u = v := by
  match c, hc with
  | 0, _ => exact (show u = _ from h1).trans (show v = _ from h2).symm
  | 1, _ => exact (show u = _ from h1).trans (show v = _ from h2).symm

/-- Cells in memory that are a list's. -/
theorem fl3_in {l : List (Int × Int × Unit)} {get : Nat → Option Value} (h : ∀ i, i < l.length → ∀ c, c < 2 → ∃ u w G, get (i * 2 + c) = some u ∧ O3.cell (l.getD i O3.dflt) c w G u) : ∀ j v, (fl3 l)[j]? = some v → get j = some v := fun j v hj => by
  have hl := (List.getElem?_eq_some_iff.1 hj).1
  rw [fl3_len] at hl
  obtain ⟨u, w, G, h1, h2⟩ := h (j / 2) (by omega) (j % 2) (by omega)
  obtain ⟨u', h3, h4⟩ := fl3_cell l (j / 2) (j % 2) (by omega) (by omega)
  have e : j / 2 * 2 + j % 2 = j := by omega
  rw [e] at h1 h3
  rw [hj] at h3; obtain rfl := Option.some.inj h3
  rw [h1, O3_cell (by omega) h2 (h4 w G)]

theorem setCells_heap {g : Nat} {e : TypeId} {z : Nat × Nat} : ∀ (vs : List Value) (o : Nat) (w : World) (cur : Array Value), w.heap[g]? = some (.cells cur e z) → ∃ cur', (w.setCells g o vs).heap[g]? = some (.cells cur' e z) ∧ cur'.size = cur.size ∧ (∀ k, k ≠ g → (w.setCells g o vs).heap[k]? = w.heap[k]?) ∧ (w.setCells g o vs).heap.size = w.heap.size ∧ (w.setCells g o vs).os = w.os ∧ (w.setCells g o vs).tape = w.tape ∧ (w.setCells g o vs).output = w.output ∧
    (∀ j, j < o → cur'[j]? = cur[j]?) ∧ (∀ j v, vs[j]? = some v → o + j < cur.size → cur'[o + j]? = some v) ∧ ∀ j, o + vs.length ≤ j → cur'[j]? = cur[j]?
  | [], o, w, cur, h => ⟨cur, h, rfl, fun _ _ => rfl, rfl, rfl, rfl, rfl, fun _ _ => rfl, fun j v hj => by simp at hj, fun _ _ => rfl⟩
  | v :: r, o, w, cur, h => by
    have hs : w.setCell ⟨g, o, none⟩ v = w.setRow g (cur.setIfInBounds o v) := setCell_eq_setRow w g o cur e z v h
    have hh := setRow_heap w g cur (cur.setIfInBounds o v) e z h
    obtain ⟨cur', a1, a2, a3, a4, a5, a6, a7, a8, a9, a10⟩ := setCells_heap r (o + 1) (w.setCell ⟨g, o, none⟩ v) (cur.setIfInBounds o v) (by rw [hs]; exact hh)
    refine ⟨cur', a1, by rw [a2]; simp, fun k hk => (a3 k hk).trans (by rw [hs]; exact setRow_other w g k _ hk), a4.trans (by rw [hs]; simp), a5, a6, a7, fun j hj => ?_, fun j u hj hlt => ?_, fun j hj => ?_⟩
    · rw [a8 j (by omega)]; simp [Array.getElem?_setIfInBounds_ne (show o ≠ j by omega)]
    · cases j with
      | zero =>
        obtain rfl := Option.some.inj hj
        rw [Nat.add_zero] at hlt ⊢
        rw [a8 o (by omega)]; simp [hlt]
      | succ j =>
        rw [show o + (j + 1) = o + 1 + j by omega]
        exact a9 j u (by simpa using hj) (by simp; omega)
    · rw [List.length_cons] at hj
      rw [a10 j (by omega)]; simp [Array.getElem?_setIfInBounds_ne (show o ≠ j by omega)]

theorem tlook1 {o : TO} {id : Nat} {o1 : TO} (h : tlook [(9000, o)] id = some o1) : id = 9000 ∧ o1 = o := by
  simp only [tlook] at h
  split at h
  · rename_i e; exact ⟨e, (Option.some.inj h).symm⟩
  · cases h

/-- What is behind the call, from what its world holds. -/
theorem ins_post {F : Nat → Prop} {π : Nat → Pl} {w w' : World} {l l' : List (Int × Int × Unit)} {e : Ending} {b q cap : Nat} {cur : Array Value} {T : TypeId} (hfr : Frame F w π [(9000, .row O3 l)])
    (he : e = .returned (.slice (some ⟨b, q, none⟩) l'.length cap)) (hblk : w'.heap[b]? = some (.cells cur T (0, 0))) (hlen : l'.length ≤ cap) (hcap : cap ≤ maxLen) (hfit : q + cap * 2 ≤ cur.size) (hcells : ∀ (j : Nat) v, (fl3 l')[j]? = some v → cur[q + j]? = some v)
    (hown : Own π (tlook [(9000, .row O3 l)]) 9000 b ∨ w.heap.size ≤ b) (hkeep : ∀ k, k < w.heap.size → (∀ id, ¬ Own π (tlook [(9000, .row O3 l)]) id k) → w'.heap[k]? = w.heap[k]?) (hsz : w.heap.size ≤ w'.heap.size) (hos : w'.os = w.os ∧ w'.tape = w.tape ∧ w'.output = w.output) :
    ∃ r v O' π', e = .returned v ∧ (r = .row 1500 ∧ O' = [(1500, .row O3 l'), (9000, .dead)]) ∧ Frame (fun b => F b ∨ w.heap.size ≤ b) w' π' O' ∧ VR w' (Gz (fun b => F b ∨ w.heap.size ≤ b) w' π' (tlook O')) π' (tlook O') r v ∧
      (∀ id o, tlook [(9000, .row O3 l)] id = some o → ∃ o', tlook O' id = some o' ∧ (o'.live = true → π' id = π id ∧ Shp o o')) ∧ (∀ id g, Own π' (tlook O') id g → (∃ j, Own π (tlook [(9000, .row O3 l)]) j g) ∨ w.heap.size ≤ g) ∧ Kept ⟨w, fun b => ∀ id, ¬ Own π (tlook [(9000, .row O3 l)]) id b, fun _ => none⟩ w' := by
  let π' : Nat → Pl := fun id => if id = 1500 then ⟨some b, q, cap⟩ else π id
  have hlk : ∀ id o, tlook [(1500, TO.row O3 l'), (9000, .dead)] id = some o → (id = 1500 ∧ o = .row O3 l') ∨ (id = 9000 ∧ o = .dead) := fun id o h => by
    simp only [tlook] at h
    split at h
    · rename_i e1; exact .inl ⟨e1, (Option.some.inj h).symm⟩
    · split at h
      · rename_i e1; exact .inr ⟨e1, (Option.some.inj h).symm⟩
      · cases h
  have hO : ∀ id g, Own π' (tlook [(1500, TO.row O3 l'), (9000, .dead)]) id g → id = 1500 ∧ g = b := fun id g ⟨h1, o, h2, h3⟩ => by
    rcases hlk id o h2 with ⟨rfl, rfl⟩ | ⟨rfl, rfl⟩
    · simp only [π', if_true] at h1; exact ⟨rfl, (Option.some.inj h1).symm⟩
    · cases h3
  refine ⟨_, _, _, π', he, ⟨rfl, rfl⟩, ⟨fun id o ho => ?_, fun i j g hi hj => (hO i g hi).1.trans (hO j g hj).1.symm, fun id g hid => ?_⟩, ?_, fun id o ho => ?_, fun id g hid => ?_, ⟨hos.1, hos.2.1, hos.2.2, hsz, fun k hk => hkeep k hk.2 hk.1⟩⟩
  · rcases hlk id o ho with ⟨rfl, rfl⟩ | ⟨rfl, rfl⟩
    · refine .inr ⟨b, cur, T, by simp [π'], hblk, by simpa [π'] using hlen, by simpa [π'] using hcap, by simpa [π', DT.size] using hfit, fun i hi c hc => ?_⟩
      obtain ⟨u, h1, h2⟩ := fl3_cell l' i c hi (by simpa [DT.size] using hc)
      refine ⟨u, ?_, fl3_one l' u (List.mem_of_getElem? h1), h2 _ _⟩
      have := hcells _ _ h1
      simpa [π', DT.size, Nat.add_assoc] using this
    · trivial
  · obtain ⟨rfl, rfl⟩ := hO id g hid
    refine ⟨?_, (Array.getElem?_eq_some_iff.1 hblk).1⟩
    rcases hown with h | h
    · exact .inl (hfr.new 9000 g h).1
    · exact .inr h
  · simp [VR, tlook, π', Pl.hdr]
  · obtain ⟨rfl, rfl⟩ := tlook1 ho
    exact ⟨.dead, by simp [tlook], fun h => by cases h⟩
  · obtain ⟨rfl, rfl⟩ := hO id g hid
    exact hown.imp (fun h => ⟨9000, h⟩) id

def A85 (i : Int) (v l : List (Int × Int × Unit)) : Option (List (Int × Int × Unit)) :=
  if 0 ≤ i ∧ i ≤ l.length ∧ v.length = 1 ∧ (l.length + 1) * 16 ≤ 140737488355328 then some (l.take i.toNat ++ v ++ l.drop i.toNat) else none

theorem enters85 (xs : Array Value) (w : World) : (callFunc 85 xs).run Try.prog w = .ok (.enter 85 xs) w := enters_of Try.func85 (by kernel_rfl) rfl xs w

theorem alloc_new (w : World) (o : Obj) : (w.alloc o).heap[w.heap.size]? = some o := by
  show (w.heap.push o)[w.heap.size]? = some o
  simp

theorem cells_alloc {w : World} {g : Nat} {o : Obj} (hg : g < w.heap.size) : (w.alloc o).heap[g]? = w.heap[g]? := Below.heap_alloc w o g hg

theorem insert_spec {i : Int} {v l : List (Int × Int × Unit)} (h0 : 0 ≤ i) (hil : i ≤ l.length) (hv1 : v.length = 1) (hbig : (l.length + 1) * 16 ≤ 140737488355328) :
    HSpec Try.prog 85 [.row 9000, .dv (.int .i64) i, .dv (.sl O3) v] [(9000, .row O3 l)] fun r O => r = .row 1500 ∧ O = [(1500, .row O3 (l.take i.toNat ++ v ++ l.drop i.toNat)), (9000, .dead)] := by
  refine ⟨enters85, fun w F π vs hvl hF hfr hv => ?_⟩
  obtain ⟨r, iv, vv, rfl⟩ : ∃ r iv vv, vs = [r, iv, vv] := by
    match vs, hvl with
    | [a, b, c], _ => exact ⟨a, b, c, rfl⟩
  have hr : r = (π 9000).hdr l.length := by simpa [VR, tlook] using hv 0 _ _ rfl rfl
  have hiv : iv = .int .i64 i := (DT.val_one (t := .int .i64) rfl).1 (hv 1 _ _ rfl rfl)
  have hvv : (DT.sl O3).cell v 0 w (Gz F w π (tlook [(9000, .row O3 l)])) vv := (DT.val_one (t := .sl O3) rfl).1 (hv 2 _ _ rfl rfl)
  obtain ⟨p, vc, rfl, _, _, _, _, hvc⟩ := hvv
  rw [hv1] at hvc
  obtain ⟨vb, voff, rfl, hGv, hvcell⟩ := hvc (by omega)
  rw [hv1]
  subst hiv
  obtain ⟨n, rfl⟩ : ∃ n : Nat, i = n := ⟨i.toNat, by omega⟩
  have hin : n ≤ l.length := by omega
  rw [Int.toNat_natCast]
  -- the elements to be put in
  have hvs : ∀ (j : Nat) u, (fl3 v)[j]? = some u → w.cell? ⟨vb, voff + j, none⟩ = some u := fl3_in (get := fun j => w.cell? ⟨vb, voff + j, none⟩) fun i hi c hc => by
    obtain ⟨u, a1, a2, a3⟩ := hvcell i (by omega) c hc
    refine ⟨u, w, _, ?_, a3⟩
    show w.cell? ⟨vb, voff + (i * 2 + c), none⟩ = some u
    rw [← a1, show voff + (i * 2 + c) = voff + i * O3.size + c by show _ = voff + i * 2 + c; omega]
  have hvl2 : (fl3 v).length = 2 := by rw [fl3_len, hv1]
  have hlen' : (l.take n ++ v ++ l.drop n).length = l.length + 1 := by simp; omega
  have hflat : fl3 (l.take n ++ v ++ l.drop n) = (fl3 l).take (n * 2) ++ fl3 v ++ (fl3 l).drop (n * 2) := by rw [fl3_app, fl3_app, fl3_take, fl3_drop]
  have hmax : l.length + 1 ≤ maxLen := by unfold maxLen; omega
  rcases hfr.obj 9000 (.row O3 l) (by simp [tlook]) with ⟨h1, h2⟩ | ⟨g, cur, T, h1, h2, h3, h4, h5, h6⟩
  · -- nil
    subst h2
    obtain rfl : n = 0 := by simpa using hin
    have hr2 : r = .slice none 0 0 := by rw [hr]; simp [Pl.hdr, h1]
    subst hr2
    refine (ins_end_grow none 0 0 vb voff vc [] (fl3 v) w (Nat.le_refl _) (by omega) (by simp) rfl hvl2 (fun _ => rfl) (fun a ha => by cases ha) hvs (fl3_one v)).mono fun e w' ⟨he, hw⟩ => ?_
    have hnew : w'.heap[w.heap.size]? = some (.cells (([] ++ fl3 v).toArray ++ Builtin.zeroCells (Value.agg #[.int .i64 0, .int .i64 0]).cells (grownCap w (0 + 1) 0 56 - (0 + 1))) 56 (0, 0)) := by
      rw [hw]; exact alloc_new w.drew _
    have hg1 := grownCap_ge w (0 + 1) 0 56
    refine ins_post (l' := [].take 0 ++ v ++ [].drop 0) hfr (b := w.heap.size) (q := 0) (cap := grownCap w (0 + 1) 0 56) (by rw [he]; simp [hv1]) hnew (by simpa [hv1] using hg1) (grownCap_le_maxLen w _ _ _ hmax) ?_ ?_ (.inr (Nat.le_refl _)) (fun k hk _ => by rw [hw]; exact Below.heap_alloc w.drew _ k hk) (by rw [hw]; simp) ⟨by rw [hw]; rfl, by rw [hw]; rfl, by rw [hw]; rfl⟩
    · simp [Builtin.zeroCells, Value.cells, hvl2]; omega
    · intro j u hj
      simp only [List.take_nil, List.drop_nil, List.nil_append, List.append_nil, Nat.zero_add] at hj ⊢
      have := (List.getElem?_eq_some_iff.1 hj).1
      rw [Array.getElem?_append_left (by simpa using this)]
      simpa using hj
  · -- a row
    have hr2 : r = .slice (some ⟨g, (π 9000).q, none⟩) l.length (π 9000).cap := by rw [hr]; simp [Pl.hdr, h1]
    subst hr2
    have hsz2 : O3.size = 2 := rfl
    rw [hsz2] at h5
    have hgl : g < w.heap.size := (Array.getElem?_eq_some_iff.1 h2).1
    have hown : Own π (tlook [(9000, .row O3 l)]) 9000 g := ⟨h1, .row O3 l, by simp [tlook], rfl⟩
    have hcs : ∀ (j : Nat) u, (fl3 l)[j]? = some u → cur[(π 9000).q + j]? = some u := fl3_in (get := fun j => cur[(π 9000).q + j]?) fun i hi c hc => by
      obtain ⟨u, a1, a2, a3⟩ := h6 i hi c hc
      refine ⟨u, w, _, ?_, a3⟩
      show cur[(π 9000).q + (i * 2 + c)]? = some u
      rw [← a1]; congr 1; show _ = (π 9000).q + i * 2 + c; omega
    have hcsw : ∀ (j : Nat) u, (fl3 l)[j]? = some u → w.cell? ⟨g, (π 9000).q + j, none⟩ = some u := fun j u hj => by rw [cell_at h2]; exact hcs j u hj
    have hsp : ∀ j, j < (π 9000).cap * 2 → (w.cell? ⟨g, (π 9000).q + j, none⟩).isSome = true := fun j hj => by
      rw [cell_at h2, Array.getElem?_eq_getElem (by omega)]; rfl
    have hfz : ∀ j, w.frozen? ⟨g, j, none⟩ = false := fun j => by simp [World.frozen?, h2]
    have hne : vb ≠ g := fun e => hGv.2.2 9000 (e ▸ hown)
    have hkeepg : ∀ k, (∀ id, ¬ Own π (tlook [(9000, .row O3 l)]) id k) → k ≠ g := fun k hk e => hk 9000 (e ▸ hown)
    by_cases hroom : l.length + 1 ≤ (π 9000).cap
    · by_cases hend : n = l.length
      · subst hend
        refine (ins_end_room g (π 9000).q l.length (π 9000).cap vb voff vc (fl3 v) w hroom (by unfold maxLen at h4; omega) hvl2 (fun j hj => by rw [Nat.add_assoc]; exact hsp _ (by omega)) (fun j hj => hfz _) hvs (fl3_one v)).mono fun e w' ⟨he, hw⟩ => ?_
        obtain ⟨cur', a1, a2, a3, a4, a5, a6, a7, a8, a9, a10⟩ := setCells_heap (fl3 v) ((π 9000).q + l.length * 2) w cur h2
        rw [← hw] at a1 a3 a4 a5 a6 a7
        refine ins_post hfr (by rw [he, hlen']) a1 (by omega) h4 (by omega) ?_ (.inl hown) (fun k hk hno => a3 k (hkeepg k hno)) (by omega) ⟨a5, a6, a7⟩
        intro j u hj
        rw [hflat, List.take_of_length_le (by rw [fl3_len]; omega), List.drop_of_length_le (by rw [fl3_len]; omega), List.append_nil] at hj
        by_cases hjl : j < l.length * 2
        · rw [List.getElem?_append_left (by rw [fl3_len]; exact hjl)] at hj
          rw [a8 _ (by omega)]; exact hcs j u hj
        · rw [List.getElem?_append_right (by rw [fl3_len]; omega), fl3_len] at hj
          have hj2 := (List.getElem?_eq_some_iff.1 hj).1
          have := a9 (j - l.length * 2) u hj (by omega)
          rw [← this]; congr 1; omega
      · have hlt : n < l.length := by omega
        obtain ⟨ob, hob⟩ : ∃ ob, w.heap[vb]? = some ob := ⟨_, Array.getElem?_eq_getElem hGv.2.1⟩
        obtain ⟨cA, tA, zA, hA, hkA⟩ : ∃ cA tA zA, w.heap[vb]? = some (.cells cA tA zA) ∧ cA.size ≠ 0 := by
          obtain ⟨u, q1⟩ : ∃ u, w.cell? ⟨vb, voff + 0, none⟩ = some u := by
            obtain ⟨u, a1, _⟩ := hvcell 0 (by omega) 0 (by show 0 < 2; omega)
            exact ⟨u, by simpa using a1⟩
          simp only [World.cell?, hob] at q1
          cases ob with
          | cells c t z =>
            refine ⟨c, t, z, hob, fun q => ?_⟩
            have : c = #[] := Array.eq_empty_of_size_eq_zero q
            subst this
            simp at q1
          | _ => simp at q1
        refine (ins_shift g (π 9000).q l.length (π 9000).cap n vb voff vc (fl3 l) (fl3 v) w hlt hroom (by unfold maxLen at h4; omega) hne (fl3_len l) hvl2 hcsw (fun j hj => hsp j (by omega)) (fun j _ => hfz _) hvs (fl3_one l) (fl3_one v)
          tA T cA.size cur.size (by simp [World.shape?, hA]) (by simp [World.shape?, h2]) hkA (by omega) (fun j => hfz j)).mono fun e w' ⟨he, hw⟩ => ?_
        obtain ⟨c1, a1, a2, a3, a4, a5, a6, a7, a8, a9, a10⟩ := setCells_heap ((fl3 l).drop (n * 2)) ((π 9000).q + (n + 1) * 2) w.drew cur h2
        obtain ⟨c2, b1, b2, b3, b4, b5, b6, b7, b8, b9, b10⟩ := setCells_heap (fl3 v) ((π 9000).q + n * 2) _ c1 a1
        rw [← hw] at b1 b3 b4 b5 b6 b7
        refine ins_post hfr (by rw [he, hlen']) b1 (by omega) h4 (by omega) ?_ (.inl hown) (fun k hk hno => (b3 k (hkeepg k hno)).trans (a3 k (hkeepg k hno))) (by rw [b4, a4]; exact Nat.le_refl _) ⟨b5.trans a5, b6.trans a6, b7.trans a7⟩
        intro j u hj
        rw [hflat, List.append_assoc] at hj
        by_cases hj1 : j < n * 2
        · rw [List.getElem?_append_left (by rw [List.length_take, fl3_len]; omega), List.getElem?_take_of_lt hj1] at hj
          rw [b8 _ (by omega), a8 _ (by omega)]; exact hcs j u hj
        · have hlt2 : ((fl3 l).take (n * 2)).length = n * 2 := by rw [List.length_take, fl3_len]; omega
          rw [List.getElem?_append_right (by omega), hlt2] at hj
          by_cases hj2 : j < (n + 1) * 2
          · rw [List.getElem?_append_left (by omega)] at hj
            have := b9 (j - n * 2) u hj (by omega)
            rw [← this]; congr 1; omega
          · rw [List.getElem?_append_right (by omega), hvl2] at hj
            have hj3 := (List.getElem?_eq_some_iff.1 hj).1
            rw [List.length_drop, fl3_len] at hj3
            have h9 := a9 (j - n * 2 - 2) u hj (by omega)
            rw [b10 _ (by omega), ← h9]; congr 1; omega
    · by_cases hend : n = l.length
      · subst hend
        refine (ins_end_grow (some ⟨g, (π 9000).q, none⟩) l.length (π 9000).cap vb voff vc (fl3 l) (fl3 v) w h3 (by omega) hbig (fl3_len l) hvl2 (fun h => by cases h) (fun a ha j u hj => by
          obtain rfl := Option.some.inj ha
          rw [Addr.add_lit]; exact hcsw j u hj) hvs (fl3_one v)).mono fun e w' ⟨he, hw⟩ => ?_
        have hnew : w'.heap[w.heap.size]? = some (.cells ((fl3 l ++ fl3 v).toArray ++ Builtin.zeroCells (Value.agg #[.int .i64 0, .int .i64 0]).cells (grownCap w (l.length + 1) (π 9000).cap 56 - (l.length + 1))) 56 (0, 0)) := by
          rw [hw]; exact alloc_new w.drew _
        have hg1 := grownCap_ge w (l.length + 1) (π 9000).cap 56
        refine ins_post hfr (b := w.heap.size) (q := 0) (by rw [he, hlen']) hnew (by rw [hlen']; exact hg1) (grownCap_le_maxLen w _ _ _ hmax) ?_ ?_ (.inr (Nat.le_refl _)) (fun k hk _ => by rw [hw]; exact Below.heap_alloc w.drew _ k hk) (by rw [hw]; simp) ⟨by rw [hw]; rfl, by rw [hw]; rfl, by rw [hw]; rfl⟩
        · simp [Builtin.zeroCells, Value.cells, hvl2, fl3_len]; omega
        · intro j u hj
          rw [hflat, List.take_of_length_le (by rw [fl3_len]; omega), List.drop_of_length_le (by rw [fl3_len]; omega), List.append_nil] at hj
          have := (List.getElem?_eq_some_iff.1 hj).1
          rw [Nat.zero_add, Array.getElem?_append_left (by simpa using this)]
          simpa using hj
      · have hlt : n < l.length := by omega
        refine (ins_grow g (π 9000).q l.length (π 9000).cap n vb voff vc (fl3 l) (fl3 v) w hlt h3 (by omega) hbig (fl3_len l) hvl2 hcsw hvs (fl3_one l) (fl3_one v)).mono fun e w' ⟨ROW, he, hR1, hR2, hw⟩ => ?_
        have hg1 := grownCap_ge w (l.length + 1) (π 9000).cap 56
        have hnew : ((w.alloc (.cells ROW 56)).drew).heap[w.heap.size]? = some (.cells ROW 56 (0, 0)) := alloc_new w _
        obtain ⟨c1, a1, a2, a3, a4, a5, a6, a7, a8, a9, a10⟩ := setCells_heap (fl3 v) (n * 2) _ ROW hnew
        obtain ⟨c2, b1, b2, b3, b4, b5, b6, b7, b8, b9, b10⟩ := setCells_heap (g := w.heap.size) ((fl3 l).drop (n * 2)) ((n + 1) * 2) ((((w.alloc (.cells ROW 56)).drew.setCells w.heap.size (n * 2) (fl3 v)).drew)) c1 a1
        rw [← hw] at b1 b3 b4 b5 b6 b7
        have hsz1 : ((w.alloc (.cells ROW 56)).drew).heap.size = w.heap.size + 1 := by show (w.heap.push _).size = _; simp
        refine ins_post hfr (b := w.heap.size) (q := 0) (by rw [he, hlen']) b1 (by rw [hlen']; exact hg1) (grownCap_le_maxLen w _ _ _ hmax) (by omega) ?_ (.inr (Nat.le_refl _)) (fun k hk _ => (b3 k (by omega)).trans ((a3 k (by omega)).trans (Below.heap_alloc w _ k hk))) (by rw [b4]; show w.heap.size ≤ _; rw [show ((((w.alloc (.cells ROW 56)).drew.setCells w.heap.size (n * 2) (fl3 v)).drew)).heap.size = w.heap.size + 1 from a4.trans hsz1]; omega) ⟨b5.trans a5, b6.trans a6, b7.trans a7⟩
        intro j u hj
        rw [hflat, List.append_assoc] at hj
        rw [Nat.zero_add]
        have hlt2 : ((fl3 l).take (n * 2)).length = n * 2 := by rw [List.length_take, fl3_len]; omega
        by_cases hj1 : j < n * 2
        · rw [List.getElem?_append_left (by omega)] at hj
          rw [b8 _ (by omega), a8 _ (by omega)]; exact hR2 j u hj
        · rw [List.getElem?_append_right (by omega), hlt2] at hj
          by_cases hj2 : j < (n + 1) * 2
          · rw [List.getElem?_append_left (by omega)] at hj
            have := a9 (j - n * 2) u hj (by omega)
            rw [b8 _ (by omega), ← this]; congr 1; omega
          · rw [List.getElem?_append_right (by omega), hvl2] at hj
            have hj3 := (List.getElem?_eq_some_iff.1 hj).1
            rw [List.length_drop, fl3_len] at hj3
            have h9 := b9 (j - n * 2 - 2) u hj (by omega)
            rw [← h9]; congr 1; omega

theorem ok85 : FnOk Try.prog 85 (F85c A85) := by
  intro args Of x hx
  simp only [F85c] at hx
  split at hx
  · rename_i i v l
    simp only [A85] at hx
    split at hx
    · rename_i h
      obtain rfl := Option.some.inj hx
      exact insert_spec h.1 h.2.1 h.2.2.1 h.2.2.2
    · cases hx
  · cases hx

end Go.Proofs.Ytbblnbolabpfmaa
