/-
 Words and what weighings show: distances, twins, frames and the nearest, in plain Lean.
-/
import Derived.Test.YtfopcfnggdonkaaGreatDoorW5
namespace Go.Proofs.YtfopcfnggdonkaaGreatDoor
open Go.RowKit
set_option linter.unusedVariables false
theorem acC (b : List Int) : ∀ (xs : List Int) (t : Nat) (n : Int), 0 <= n -> t + xs.length = b.length -> (yY b t xs n = 0 ↔ n = 0 /\ xs = b.drop t)
 | [], t, n, h, hl => by
  have : b.drop t = [] := List.drop_eq_nil_of_le (by simp at hl; omega)
  simp [yY, this]
 | x :: xs, t, n, h, hl => by
  simp only [List.length_cons] at hl
  have ht : t < b.length := by omega
  rw [yY, asZ (d := 0) ht]
  cases e : (x != b.getD t 0) with
  | true =>
   have hne : x ≠ b.getD t 0 := by simpa using e
   have := (Oa b xs (t + 1) (n + 1)).1
   rw [cond_true]
   constructor
   ·intro h'; omega
   ·rintro ⟨_, h'⟩; exact absurd (List.cons.inj h').1 hne
  | false =>
   have heq : x = b.getD t 0 := by simpa using e
   rw [cond_false, acC b xs (t + 1) n h (by omega), heq]
   constructor
   ·rintro ⟨h1, h2⟩; exact ⟨h1, by rw [h2]⟩
   ·rintro ⟨h1, h2⟩; exact ⟨h1, (List.cons.inj h2).2⟩
theorem Oc {a b : List Int} (h : a.length = b.length) : ap a b = 0 ↔ a = b := by
 have := acC b a 0 0 (Int.le_refl _) (by omega)
 simpa [ap] using this
theorem acD {a b : List Int} (h : a.length = b.length) : 0 < ap a b ↔ a ≠ b := by
 have h1 := (Ob a b).1
 have h2 := Oc h
 constructor
 ·intro h3 h4; have := h2.2 h4; omega
 ·intro h3
  have : ap a b ≠ 0 := fun h4 => h3 (h2.1 h4)
  omega
theorem agU : ∀ (l : List Int) (n : Int), 0 < jU n l ↔ 0 < n /\ ∀ x ∈ l, 0 < x
 | [], n => by simp [jU]
 | x :: r, n => by
  have : jU n (x :: r) = jU (gI n x) r := rfl
  rw [this, agU r]
  have h2 : 0 < gI n x ↔ 0 < n /\ 0 < x := by unfold gI; split <;> omega
  rw [h2, List.forall_mem_cons, and_assoc]
theorem aeF {m : Nat} : ∀ (rest pre : List (List Int)), (∀ w ∈ pre ++ rest, w.length = m) -> ((pre ++ rest).Nodup ↔ pre.Nodup /\ ∀ v ∈ BN (pre ++ rest) pre.length rest, 0 < v)
 | [], pre, _ => by simp [BN]
 | x :: r, pre, hm => by
  have e : pre ++ x :: r = (pre ++ [x]) ++ r := by simp
  have ih := aeF r (pre ++ [x]) (by rw [<- e]; exact hm)
  rw [<- e, List.length_append, List.length_singleton] at ih
  rw [ih, aeE, List.take_left', List.nodup_append]
  ·have hx : x.length = m := hm x (by simp)
   have hp : (∀ v ∈ FO x pre, 0 < v) ↔ x ∉ pre := by
    simp only [FO, List.mem_map, forall_exists_index, and_imp, forall_apply_eq_imp_iff₂]
    constructor
    ·intro h hx'
     have := (acD rfl).1 (h x hx'); exact this rfl
    ·intro h y hy
     exact (acD (by rw [hx, hm y (by simp [hy])])).2 fun h' => h (h' ▸ hy)
   have e2 : (∀ v ∈ FO x pre ++ BN (pre ++ x :: r) (pre.length + 1) r, 0 < v) ↔ x ∉ pre /\ ∀ v ∈ BN (pre ++ x :: r) (pre.length + 1) r, 0 < v := by
    rw [<- hp]; simp only [List.mem_append, or_imp, forall_and]
   rw [e2]
   constructor
   ·rintro ⟨⟨a, _, b⟩, c⟩; exact ⟨a, fun h => b x h x (by simp) rfl, c⟩
   ·rintro ⟨a, b, c⟩; exact ⟨⟨a, by simp, fun y hy z hz h => b (by rw [<- List.mem_singleton.1 hz, <- h]; exact hy)⟩, c⟩
  ·rfl
theorem asX {ws : List (List Int)} {m : Nat} (h : ∀ w ∈ ws, w.length = m) (n : Int) (hn : 0 < n) : decide (jU n (BN ws 0 ws) > 0) = decide ws.Nodup := by
 refine decide_eq_decide.2 ?_
 have := aeF ws [] (by simpa using h)
 simp only [List.nil_append, List.nodup_nil, true_and, List.length_nil] at this
 rw [this]
 show 0 < _ ↔ _
 rw [agU]; simp [hn]
theorem al1 (f : List Int -> List Int) : ∀ l : List (List Int), ((DF f l).2.2 == 14) = decide (l.map f).Nodup
 | [] => by simp [DF]
 | x :: xs => by
  rw [DF]
  cases e : xs.find? (fun y => decide (f x = f y)) with
  | some y =>
   have h1 := List.mem_of_find?_eq_some e
   have h2 : f x = f y := of_decide_eq_true (List.find?_some (p := fun y => decide (f x = f y)) e)
   have : ¬ (List.map f (x :: xs)).Nodup := by
    rw [List.map_cons, List.nodup_cons]
    exact fun h => h.1 (h2 ▸ List.mem_map_of_mem h1)
   rw [decide_eq_false this]; rfl
  | none =>
   have h1 : f x ∉ xs.map f := fun h => by
    obtain ⟨y, hy, h⟩ := List.mem_map.1 h
    have := List.find?_eq_none.1 e y hy
    simp [h] at this
   show ((DF f xs).2.2 == 14) = _
   rw [al1 f xs]
   refine decide_eq_decide.2 ?_
   rw [List.map_cons, List.nodup_cons]
   exact ⟨fun h => ⟨h1, h⟩, fun h => h.2⟩
theorem aeX {c : Cd} : ∀ (ls : List (List Int)) (b : Option (List Int) × Int), (ls.foldl (FQ c) b).1 = none ↔ b.1 = none /\ ∀ l ∈ ls, fi c l 0 c.2.1 = none
 | [], b => by simp
 | l :: r, b => by
  rw [List.foldl_cons, aeX r, List.forall_mem_cons]
  have : (FQ c b l).1 = none ↔ b.1 = none /\ fi c l 0 c.2.1 = none := by
   unfold FQ
   obtain ⟨b1, b2⟩ := b
   cases b1 with
   | none =>
    simp only [Option.isSome_none, Bool.false_and, cond_false, true_and]
    cases fi c l 0 c.2.1 <;> simp
   | some y =>
    simp only [reduceCtorEq, false_and, iff_false]
    cases hq : (some y).isSome && decide (((some y).getD []).length <= l.length) with
    | true => simp
    | false => cases fi c l 0 c.2.1 <;> simp
  rw [this]; constructor
  ·rintro ⟨⟨a, b⟩, c⟩; exact ⟨a, b, c⟩
  ·rintro ⟨a, b, c⟩; exact ⟨⟨a, b⟩, c⟩
theorem Dw {c : Cd} {l : List Int} : ∀ (ws : List (List Int)) (k : Nat), fi c l k ws = none ↔ ∀ j, j < ws.length -> ((k + j : Nat) : Int) ∈ l \/ mk c l (ws.getD j []) = false
 | [], k => by simp [fi]
 | w :: r, k => by
  rw [fi]
  constructor
  ·intro h j hj
   cases hb : (!decide ((k : Int) ∈ l) && mk c l w) with
   | true => rw [hb] at h; cases h
   | false =>
    rw [hb, cond_false] at h
    cases j with
    | zero =>
     rw [List.getD_cons_zero, Nat.add_zero]
     by_cases hm : (k : Int) ∈ l
     ·exact .inl hm
     ·rw [decide_eq_false hm] at hb; exact .inr (by simpa using hb)
    | succ j =>
     have := (Dw r (k + 1)).1 h j (by simp at hj; omega)
     rw [List.getD_cons_succ, show k + (j + 1) = k + 1 + j by omega]; exact this
  ·intro h
   have h0 := h 0 (by simp)
   rw [Nat.add_zero, List.getD_cons_zero] at h0
   have hb : (!decide ((k : Int) ∈ l) && mk c l w) = false := by
    rcases h0 with h0 | h0
    ·rw [decide_eq_true h0]; rfl
    ·rw [h0, Bool.and_false]
   rw [hb, cond_false]
   refine (Dw r (k + 1)).2 fun j hj => ?_
   have := h (j + 1) (by simp; omega)
   rw [List.getD_cons_succ, show k + (j + 1) = k + 1 + j by omega] at this; exact this
theorem afX {m : Nat} {x : List Int} : NQ m 1 x ↔ ∃ k : Nat, k < m /\ x = [(k : Int)] := by
 constructor
 ·rintro ⟨h1, h2, h3, h4⟩
  match x, h1, h2 with
  | [e], _, _ =>
   have := h4 e (by simp)
   exact ⟨e.toNat, by omega, by rw [show ((e.toNat : Nat) : Int) = e by omega]⟩
 ·rintro ⟨k, hk, rfl⟩
  exact ⟨by simp, by simp, by simp, fun e he => by simp at he; omega⟩
theorem mk_one {c : Cd} {k : Nat} {w : List Int} (h : (c.2.1.getD k []).length = w.length) : mk c [(k : Int)] w = decide (c.2.1.getD k [] = w) := by
 rw [Bool.eq_iff_iff]
 simp only [mk, List.all_eq_true, List.mem_range, List.any_cons, List.any_nil, Bool.or_false, Int.toNat_natCast, decide_eq_true_eq]
 constructor
 ·intro h'
  refine List.ext_getElem h fun i h1 h2 => ?_
  have := h' i h2
  rw [List.getD_eq_getElem?_getD, List.getD_eq_getElem?_getD (l := w), List.getElem?_eq_getElem h1, List.getElem?_eq_getElem h2] at this
  exact this
 ·intro h' i hi; rw [h']
theorem au5 {c : Cd} {m : Nat} (h : ∀ w ∈ c.2.1, w.length = m) : ((I8 (TE c 1)).2.2 == 5) = decide c.2.1.Nodup := by
 have e : (TE c 1).1 = none ↔ c.2.1.Nodup := by
  unfold TE
  rw [aeX, show ((1 : Int).toNat) = 1 from rfl]
  simp only [true_and]
  rw [List.nodup_iff_pairwise_ne, List.pairwise_iff_getElem]
  have hg : ∀ {i} (hi : i < c.2.1.length), c.2.1.getD i [] = c.2.1[i] := fun hi => by rw [List.getD_eq_getElem?_getD, List.getElem?_eq_getElem hi]; rfl
  constructor
  ·intro hf i j hi hj hij
   have := (Dw c.2.1 0).1 (hf [(i : Int)] (Ox.2 (afX.2 ⟨i, hi, rfl⟩))) j hj
   rw [Nat.zero_add] at this
   rcases this with h1 | h1
   ·simp at h1; omega
   ·rw [mk_one (by rw [hg hi, hg hj, h _ (List.getElem_mem hi), h _ (List.getElem_mem hj)]), hg hi, hg hj] at h1
    exact of_decide_eq_false h1
  ·intro hp x hx
   obtain ⟨i, hi, rfl⟩ := afX.1 (Ox.1 hx)
   refine (Dw c.2.1 0).2 fun j hj => ?_
   rw [Nat.zero_add]
   by_cases hij : j = i
   ·subst hij; exact .inl (by simp)
   ·refine .inr ?_
    rw [mk_one (by rw [hg hi, hg hj, h _ (List.getElem_mem hi), h _ (List.getElem_mem hj)]), hg hi, hg hj]
    refine decide_eq_false fun he => ?_
    rcases Nat.lt_or_gt_of_ne hij with h1 | h1
    ·exact hp j i hj hi h1 he.symm
    ·exact hp i j hi hj h1 he
 unfold I8
 cases e1 : (TE c 1).1 with
 | none => simp only; rw [decide_eq_true (e.1 e1)]; rfl
 | some l => simp only; rw [decide_eq_false (fun h' => by rw [e.2 h'] at e1; cases e1)]; rfl
theorem agV : ∀ (l : List Int) (n : Int), 0 <= n -> (∀ x ∈ l, 0 <= x) -> (0 : Int) ∈ l -> jU n l = 0
 | x :: r, n, hn, hl, h => by
  have e : jU n (x :: r) = jU (gI n x) r := rfl
  have hx := hl x (by simp)
  have hr : ∀ y ∈ r, 0 <= y := fun y hy => hl y (by simp [hy])
  rw [e]
  rcases List.mem_cons.1 h with h | h
  ·have h0 : gI n x = 0 := by unfold gI; split <;> omega
   rw [h0]
   have h1 := OA r 0
   have h2 : ∀ (l : List Int) (n : Int), 0 <= n -> (∀ x ∈ l, 0 <= x) -> 0 <= jU n l := by
    intro l
    induction l with
    | nil => intro n hn _; exact hn
    | cons y l ih =>
     intro n hn hl
     exact ih (gI n y) (by have := hl y (by simp); unfold gI; split <;> omega) fun z hz => hl z (by simp [hz])
   have := h2 r 0 (Int.le_refl _) hr
   omega
  ·exact agV r (gI n x) (by unfold gI; split <;> omega) hr h
theorem aiD {f : List Int -> List Int} {g : List Int -> List Int} {sh w : List Int} {m : Nat} (C : List (List Int)) : ∀ (cs : List (List Int)) (t : Nat), cs = C.drop t -> (∀ c ∈ cs, (g c).length = w.length) -> (∀ c ∈ cs, g c = w ↔ f c = sh) ->
  (∀ k ∈ tX w 0 t (cs.map g), 0 <= k /\ k < (C.length : Int)) /\ (tX w 0 t (cs.map g)).map (fun k => C.getD k.toNat [0, 0]) = cs.filter (fun c => decide (f c = sh))
 | [], t, _, _, _ => by simp [tX]
 | c :: cs, t, h, hl, hg => by
  obtain ⟨ht, hx, hd⟩ := getD_drop (d := ([0, 0] : List Int)) h.symm
  have ih := aiD (f := f) (sh := sh) (m := m) C cs (t + 1) hd.symm (fun c hc => hl c (by simp [hc])) (fun c hc => hg c (by simp [hc]))
  have hz := Oc (hl c (by simp))
  have hc := hg c (by simp)
  rw [List.map_cons, tX, List.filter_cons]
  by_cases e : f c = sh
  ·rw [decide_eq_true (hz.2 (hc.2 e)), cond_true, if_pos (decide_eq_true e), List.map_cons, ih.2, Int.toNat_natCast, hx]
   refine ⟨fun k hk => ?_, rfl⟩
   rcases List.mem_cons.1 hk with rfl | hk
   ·omega
   ·exact ih.1 k hk
  ·rw [decide_eq_false (fun h' => e (hc.1 (hz.1 h'))), cond_false, if_neg (by simp [e]), ih.2]
   exact ⟨ih.1, rfl⟩
end Go.Proofs.YtfopcfnggdonkaaGreatDoor
