/-
  Nobody is framed but as stated.
-/
import Derived.Test.YtbjfbbfglkmadaaDoorX1
import Derived.Test.YtbjfbbfglkmadaaDoorQ9
namespace Go.Proofs.YtbjfbbfglkmadaaDoor
open Go.RowKit
set_option linter.unusedVariables false

theorem bit_of0 (s c : Nat) : ((((s / 2 ^ c &&& 1 : Nat)) : Int) == 0) = !s.testBit c := by
  rw [Nat.and_one_is_mod, Nat.testBit_eq_decide_div_mod_eq]
  by_cases h : s / 2 ^ c % 2 = 1
  · simp [h]
  · have : s / 2 ^ c % 2 = 0 := by omega
    simp [this]
theorem bit_i640 {s c : Nat} (hs : s < 4611686018427387904) (hc : c ≤ 64) : ((bAnd .i64 (Int.fdiv (s : Int) (2 ^ min (Int.toNat (c : Int)) 64)) 1) == 0) = !s.testBit c := by
  rw [Int.toNat_natCast, Nat.min_eq_left hc, fdiv_pow]
  have h := bAnd_i64 (a := s / 2 ^ c) (b := 1) (Nat.lt_of_le_of_lt (Nat.div_le_self _ _) hs) (by decide)
  rw [show ((1 : Nat) : Int) = 1 from rfl] at h
  rw [h]; exact bit_of0 s c
def FB (c : Cd) (P : List Int → Prop) (b : Option (List Int) × Int) : Prop :=
  (b.1 = none ∧ b.2 = 0 ∧ ∀ x, P x → fi c x 0 c.2.1 = none) ∨ (∃ y, b.1 = some y ∧ P y ∧ fi c y 0 c.2.1 = some b.2 ∧ ∀ x, P x → (fi c x 0 c.2.1).isSome = true → y.length < x.length ∨ (y.length = x.length ∧ (x = y ∨ bf y x = true)))
theorem FB.skip {c : Cd} {P P' : List Int → Prop} {b : Option (List Int) × Int} {x : List Int} (h : FB c P b) (hp : ∀ z, P' z ↔ P z ∨ z = x)
    (hx : fi c x 0 c.2.1 = none ∨ ∃ y, b.1 = some y ∧ (y.length < x.length ∨ (y.length = x.length ∧ (x = y ∨ bf y x = true)))) : FB c P' b := by
  rcases h with ⟨h1, h2, h3⟩ | ⟨y, h1, h2, h3, h4⟩
  · refine .inl ⟨h1, h2, fun z hz => ?_⟩
    rcases (hp z).1 hz with hz | rfl
    · exact h3 z hz
    · rcases hx with hx | ⟨y, hy, _⟩
      · exact hx
      · rw [h1] at hy; cases hy
  · refine .inr ⟨y, h1, (hp y).2 (.inl h2), h3, fun z hz hs => ?_⟩
    rcases (hp z).1 hz with hz | rfl
    · exact h4 z hz hs
    · rcases hx with hx | ⟨y', hy, hx⟩
      · rw [hx] at hs; cases hs
      · rw [h1] at hy; obtain rfl := Option.some.inj hy; exact hx
theorem FB.same {c : Cd} {P P' : List Int → Prop} {b : Option (List Int) × Int} (h : FB c P b) (hp : ∀ z, P' z ↔ P z) : FB c P' b := by
  have : P' = P := funext fun z => propext (hp z)
  rw [this]; exact h
theorem FB.take {c : Cd} {P P' : List Int → Prop} {b : Option (List Int) × Int} {x : List Int} {i : Int} (h : FB c P b) (hp : ∀ z, P' z ↔ P z ∨ z = x)
    (hi : fi c x 0 c.2.1 = some i) (hx : ∀ y, b.1 = some y → x.length < y.length ∨ (x.length = y.length ∧ bf x y = true)) : FB c P' (some x, i) := by
  refine .inr ⟨x, rfl, (hp x).2 (.inr rfl), hi, fun z hz hs => ?_⟩
  rcases (hp z).1 hz with hz | rfl
  · rcases h with ⟨h1, h2, h3⟩ | ⟨y, h1, h2, h3, h4⟩
    · rw [h3 z hz] at hs; cases hs
    · rcases hx y h1 with q | ⟨q1, q2⟩ <;> rcases h4 z hz hs with r | ⟨r1, r2⟩
      · exact .inl (by omega)
      · exact .inl (by omega)
      · exact .inl (by omega)
      · refine .inr ⟨by omega, .inr ?_⟩
        rcases r2 with r2 | r2
        · rw [r2]; exact q2
        · exact bf_trans q2 r2
  · exact .inr ⟨rfl, .inl rfl⟩
theorem FB.uniq {c : Cd} {P : List Int → Prop} {b b' : Option (List Int) × Int} (h : FB c P b) (h' : FB c P b') : b = b' := by
  rcases h with ⟨h1, h2, h3⟩ | ⟨y, h1, h2, h3, h4⟩ <;> rcases h' with ⟨g1, g2, g3⟩ | ⟨y', g1, g2, g3, g4⟩
  · exact Prod.ext (h1.trans g1.symm) (h2.trans g2.symm)
  · rw [h3 y' g2] at g3; cases g3
  · rw [g3 y h2] at h3; cases h3
  · have e : y = y' := by
      rcases h4 y' g2 (by rw [g3]; rfl) with q | ⟨q1, q2⟩ <;> rcases g4 y h2 (by rw [h3]; rfl) with r | ⟨r1, r2⟩
      · omega
      · omega
      · omega
      · rcases q2 with q2 | q2
        · exact q2.symm
        · rcases r2 with r2 | r2
          · exact r2
          · rw [bf_asym q2] at r2; cases r2
    subst e
    rw [h3] at g3
    exact Prod.ext (h1.trans g1.symm) (Option.some.inj g3)
theorem frA_FB {c : Cd} : ∀ (l pre : List (List Int)) (b : Option (List Int) × Int), (pre ++ l).Pairwise (fun a b => bf a b = true) → FB c (· ∈ pre) b → FB c (· ∈ pre ++ l) (l.foldl (frS c) b)
  | [], pre, b, _, h => by rw [List.append_nil]; exact h
  | x :: r, pre, b, hs, h => by
    rw [List.foldl_cons, show pre ++ x :: r = (pre ++ [x]) ++ r by simp]
    refine frA_FB r (pre ++ [x]) _ (by simpa using hs) ?_
    have hp : ∀ z, z ∈ pre ++ [x] ↔ z ∈ pre ∨ z = x := fun z => by simp
    have hb : ∀ y, y ∈ pre → bf y x = true := fun y hy => (List.pairwise_append.1 hs).2.2 y hy x (by simp)
    have hmem : ∀ y, b.1 = some y → y ∈ pre := fun y hy => by
      rcases h with ⟨h1, _⟩ | ⟨y', h1, h2, _⟩
      · rw [h1] at hy; cases hy
      · rw [h1] at hy; obtain rfl := Option.some.inj hy; exact h2
    unfold frS
    cases e : b.1.isSome && decide ((b.1.getD []).length ≤ x.length) with
    | true =>
      rw [cond_true]
      cases eb : b.1 with
      | none => rw [eb] at e; cases e
      | some y =>
        rw [eb] at e
        have hl := of_decide_eq_true (show decide (y.length ≤ x.length) = true from e)
        refine h.skip hp (.inr ⟨y, eb, ?_⟩)
        by_cases q : y.length = x.length
        · exact .inr ⟨q, .inr (hb y (hmem y eb))⟩
        · exact .inl (by omega)
    | false =>
      rw [cond_false]
      cases ef : fi c x 0 c.2.1 with
      | none => exact h.skip hp (.inl ef)
      | some i =>
        refine h.take hp ef fun y hy => .inl ?_
        rw [hy] at e
        have := of_decide_eq_false (show decide (y.length ≤ x.length) = false from e)
        omega
theorem frA_best {c : Cd} {z : Int} : FB c (isCo c.2.1.length z.toNat) (frA c z) := by
  have h := frA_FB (c := c) (co c.2.1.length z.toNat) [] (none, 0) (co_sorted _ _) (.inl ⟨rfl, rfl, fun x hx => by cases hx⟩)
  exact h.same fun x => by rw [List.nil_append, co_mem]
theorem fi_at {c : Cd} {x : List Int} {i : Int} : ∀ {l : List (List Int)} {k : Nat}, fi c x k l = some i → ∃ j : Nat, i = (k + j : Nat) ∧ j < l.length ∧ i ∉ x ∧ mk c x (l.getD j []) = true
  | [], k, h => by cases h
  | w :: r, k, h => by
    rw [fi] at h
    cases e : !decide ((k : Int) ∈ x) && mk c x w with
    | true =>
      rw [e] at h
      obtain rfl := Option.some.inj h
      rw [Bool.and_eq_true, Bool.not_eq_true', decide_eq_false_iff_not] at e
      exact ⟨0, rfl, by simp, e.1, e.2⟩
    | false =>
      rw [e] at h
      obtain ⟨j, h1, h2, h3, h4⟩ := fi_at (k := k + 1) h
      exact ⟨j + 1, by omega, by simp; omega, h3, h4⟩
theorem framed_doubt {c : Cd} {y : List Int} {i : Int} {k : Nat} (hc : cdE c = 0) (hy : isCo c.2.1.length k y) (h2 : y.length ≤ 2) (hi : fi c y 0 c.2.1 = some i) : (dbV c).2 = 0 := by
  obtain ⟨hm, hn, hz, hlen, hb⟩ := cdE_ok hc
  obtain ⟨j, rfl, hj, hni, hmk⟩ := fi_at hi
  rw [Nat.zero_add] at hni
  have c1 : isCo c.2.1.length 2 [(j : Int)] := ⟨by simp, by simp, List.pairwise_singleton _ _, fun e he => by rw [List.mem_singleton.1 he]; omega⟩
  have c2 : isCo c.2.1.length 2 y := ⟨hy.1, h2, hy.2.2⟩
  have hok : ∀ l ∈ [[(j : Int)], y], okS c l = true := fun l hl => by
    simp only [List.mem_cons, List.not_mem_nil, or_false] at hl
    rcases hl with rfl | rfl
    · exact okS_co hn.2 c1
    · exact okS_co hn.2 c2
  have hw : c.2.1.getD j [] ∈ c.2.1 := getD_mem hj
  have hp : (dbF c [[(j : Int)], y]).2 = true := by
    rw [dbF_snd hc (by simp) hok, Bool.and_eq_true]
    constructor
    · rw [pl, List.all_eq_true]
      intro k hk
      have hk : k < sz c := by rw [List.mem_range'_1] at hk; omega
      have hmr := hb _ hw _ (getD_mem (l := c.2.1.getD j []) (d := 0) (show k < _ by rw [hlen _ hw]; exact hk))
      rw [plK, List.any_eq_true]
      refine ⟨((c.2.1.getD j []).getD k 0).toNat, by rw [List.mem_range'_1]; omega, ?_⟩
      rw [show ((((c.2.1.getD j []).getD k 0).toNat : Nat) : Int) = (c.2.1.getD j []).getD k 0 by omega]
      rw [List.all_eq_true]
      intro l hl
      simp only [List.mem_cons, List.not_mem_nil, or_false] at hl
      rcases hl with rfl | rfl
      · exact List.any_eq_true.2 ⟨(j : Int), by simp, by rw [Int.toNat_natCast]; exact decide_eq_true rfl⟩
      · exact List.all_eq_true.1 hmk k (List.mem_range.2 (by rw [hlen _ hw]; exact hk))
    · rw [Bool.not_eq_true']
      show ([(j : Int)].any fun x => decide (x ∈ [(j : Int)]) && (decide (x ∈ y) && true)) = false
      rw [List.any_cons, decide_eq_false hni]; simp
  have hmem : [[(j : Int)], y] ∈ cands c.2.1.length := List.mem_append_left _ (List.mem_flatMap.2 ⟨_, co_mem.2 c1, List.mem_map.2 ⟨_, co_mem.2 c2, rfl⟩⟩)
  rw [dbV, decide_eq_true hc, cond_true, dbO_snd, show ((cands c.2.1.length).any fun ls => (dbF c ls).2) = true from List.any_eq_true.2 ⟨_, hmem, hp⟩]
  rfl
def B9 (s : Sh) (z : Int) : Option Bool := if okSh s = true ∧ 0 ≤ z ∧ z ≤ 255 then some true else none
theorem KB9 : FnOk Tryd.prog 9 (F9 B9) := ok9 (some true) B32 B34 B36 B40 B44 B45 B46 K15t KB32 KB34 KB36 KB40 KB44 KB45 KB46 B9 fun s z r h => ⟨41, by
  simp only [B9] at h
  split at h
  · rename_i hh
    obtain ⟨hs, hz⟩ := hh
    obtain ⟨hc, hsm, hn, hsz, hM, hP⟩ := mdC_ok hs
    have hok := cdE_ok hc
    rw [← h, m9, B40, if_pos hs, Option.bind_some]
    generalize hC : mdC s = c at *
    have eN : w64 (1 + Int.tmod (w64 z) 4) = ((1 + (z % 4).toNat : Nat) : Int) := by
      rw [w64_small (x := z) (by omega), tmod_emod (by omega), w64_small (by omega)]; omega
    generalize hzn : 1 + (z % 4).toNat = zn at *
    have hzn' : 1 ≤ zn ∧ zn ≤ 4 := by omega
    have h2N : 2 ^ c.2.1.length ≤ 2 ^ 5 := Nat.pow_le_pow_right (by decide) hn.2
    have h2N1 : 2 ^ 1 ≤ 2 ^ c.2.1.length := Nat.pow_le_pow_right (by decide) hn.1
    refine countP' 1 ((2 ^ c.2.1.length : Nat) : Int) (by omega) (fun n (b : Option (List Int) × Int) t => l9a (some true) B32 B34 B36 B40 B44 B45 B46 41 z c n b.1 b.2 t) (fun t b => FB c (fun x => isCo c.2.1.length zn x ∧ num x < t.toNat) b) (fun r => r = some true) (fun n b t a1 a2 hI ih => ?_) (fun n b hI => ?_) 41 (none, 0) (by omega) (.inl ⟨rfl, rfl, fun x hx => ?_⟩)
    · obtain ⟨q, rfl⟩ : ∃ j : Nat, t = j := ⟨t.toNat, by omega⟩
      have hq : q < 2 ^ c.2.1.length := by omega
      have h44 : B44 (q : Int) = some (bs c.2.1.length q) := by rw [B44, if_pos (by omega), Int.toNat_natCast, bs_10 hq (by omega)]
      have hlen : (bs c.2.1.length q).length ≤ c.2.1.length := by
        have := rise_len (lo := 0) (N := c.2.1.length) (bs_rise c.2.1.length q) fun e he => by have := bs_mem.1 he; omega
        omega
      have hnum := num_bs hq
      have hPn : ∀ x, isCo c.2.1.length zn x ∧ num x < q + 1 ↔ (isCo c.2.1.length zn x ∧ num x < q) ∨ ((bs c.2.1.length q).length ≤ zn ∧ x = bs c.2.1.length q) := fun x => by
        constructor
        · rintro ⟨g1, g2⟩
          by_cases e : num x = q
          · have hx : x = bs c.2.1.length q := by rw [← e, bs_num g1.2.2.1 g1.2.2.2]
            exact .inr ⟨by rw [← hx]; exact g1.2.1, hx⟩
          · exact .inl ⟨g1, by omega⟩
        · rintro (⟨g1, g2⟩ | ⟨g1, rfl⟩)
          · exact ⟨g1, by omega⟩
          · exact ⟨(isCo_bs (by omega) hq).2 g1, by rw [hnum]; omega⟩
      obtain ⟨b, who⟩ := b
      simp only [l9a, chk_dec (show 0 ≤ (c.2.1.length : Int) by omega), one_i64 (show c.2.1.length < 62 by omega), decide_eq_true a2, cond_true, h44, Option.bind_some, eN, ixW hq (by omega)]
      have go : ∀ b', FB c (fun x => isCo c.2.1.length zn x ∧ num x < q + 1) b' → l9a (some true) B32 B34 B36 B40 B44 B45 B46 41 z c n b'.1 b'.2 ((q + 1 : Nat) : Int) = some true := fun b' hb' => by
        have := ih b' (by rw [show ((q : Int) + 1).toNat = q + 1 by omega]; exact hb')
        rw [show ((q : Int) + 1) = ((q + 1 : Nat) : Int) by omega] at this
        exact this
      simp only [Int.toNat_natCast] at hI
      generalize hx : bs c.2.1.length q = x at *
      by_cases hl : x.length ≤ zn
      · have hPx : ∀ u, isCo c.2.1.length zn u ∧ num u < q + 1 ↔ (isCo c.2.1.length zn u ∧ num u < q) ∨ u = x := fun u => by rw [hPn]; exact ⟨fun h => h.imp id fun h => h.2, fun h => h.imp id fun h => ⟨hl, h⟩⟩
        rw [decide_eq_false (show ¬ (x.length : Int) > (zn : Int) by omega), cond_false]
        have hx0 : 0 < x.length := by
          cases ex : x with
          | nil => have := (bs_nil hq).1 (hx.trans ex); omega
          | cons _ _ => simp
        have inner : ∀ (P : Prop) (_ : ∀ y, b = some y → x.length < y.length ∨ (x.length = y.length ∧ bf x y = true)), l9b (some true) B32 B34 B36 B40 B44 B45 B46 41 z c (q : Int) x (fun y0 y1 y2 => l9a (some true) B32 B34 B36 B40 B44 B45 B46 41 z c n y0 y1 y2) 41 b who 0 = some true := fun _ hb => by
          have hv : l9b (some true) B32 B34 B36 B40 B44 B45 B46 41 z c (q : Int) x (fun y0 y1 y2 => l9a (some true) B32 B34 B36 B40 B44 B45 B46 41 z c n y0 y1 y2) 41 b who 0 = match fi c x 0 c.2.1 with
              | some i => l9a (some true) B32 B34 B36 B40 B44 B45 B46 41 z c n (some x) i ((q + 1 : Nat) : Int)
              | none => l9a (some true) B32 B34 B36 B40 B44 B45 B46 41 z c n b who ((q + 1 : Nat) : Int) := by
            refine rangeIx c.2.1 [] (fun n' (_ : Unit) t => l9b (some true) B32 B34 B36 B40 B44 B45 B46 41 z c (q : Int) x (fun y0 y1 y2 => l9a (some true) B32 B34 B36 B40 B44 B45 B46 41 z c n y0 y1 y2) n' b who t) (fun _ _ _ => True) (fun t xs _ => match fi c x t xs with
              | some i => l9a (some true) B32 B34 B36 B40 B44 B45 B46 41 z c n (some x) i ((q + 1 : Nat) : Int)
              | none => l9a (some true) B32 B34 B36 B40 B44 B45 B46 41 z c n b who ((q + 1 : Nat) : Int)) (fun n' _ t w rest ht hw _ ih' => ?_) (fun n' _ _ => ?_) 41 () (by omega) trivial
            · have hwm : w ∈ c.2.1 := hw ▸ getD_mem ht
              have h45 : B45 c (q : Int) w = some (mk c x w) := by
                rw [B45, if_pos ⟨hc, by omega, hok.2.2.2.1 w hwm⟩, Int.toNat_natCast, hx]
              have hbit : decide ((t : Int) ∈ x) = q.testBit t := by
                rw [Bool.eq_iff_iff, decide_eq_true_eq, ← hx, bs_mem, Int.toNat_natCast]
                exact ⟨fun h => h.2.2, fun h => ⟨by omega, by omega, h⟩⟩
              simp only [l9b, ixA ht, ixB ht, cond_true, chk_true, Int.toNat_natCast, hw]
              rw [chk_dec (show 0 ≤ (t : Int) by omega)]
              have hb0 := bit_i640 (s := q) (c := t) (by omega) (by omega)
              rw [Int.toNat_natCast] at hb0
              rw [hb0, fi, hbit, ixW ht (by omega), ih' () trivial, h45, Option.bind_some]
              cases q.testBit t with
              | true => rfl
              | false =>
                cases mk c x w with
                | false => rfl
                | true =>
                  simp only [Bool.not_false, cond_true, Bool.and_self]
                  rw [chk_dec hx0, ixW hq (by omega)]
            · simp only [l9b, ixE, cond_false, fi, ixW hq (by omega)]
          rw [hv]
          cases ef : fi c x 0 c.2.1 with
          | none => exact go (b, who) (hI.skip hPx (.inl ef))
          | some i => exact go (some x, i) (hI.take hPx ef hb)
        cases eb : b with
        | none =>
          subst eb
          rw [show (!(none : Option (List Int)).isNone) = false from rfl, cond_false]
          exact inner True fun y hy => by cases hy
        | some y =>
          subst eb
          simp only [Option.isNone_some, Bool.not_false, cond_true, Option.getD_some]
          have hy10 : y.length ≤ 40 := by
            rcases hI with ⟨h1, _⟩ | ⟨y', h1, ⟨h2, _⟩, _⟩
            · cases h1
            · obtain rfl := Option.some.inj h1; have := isCo_len h2; omega
          by_cases l1 : x.length > y.length
          · rw [decide_eq_true (show (x.length : Int) > (y.length : Int) by omega), cond_true]
            exact go (some y, who) (hI.skip hPx (.inr ⟨y, rfl, .inl (by omega)⟩))
          · rw [decide_eq_false (show ¬ (x.length : Int) > (y.length : Int) by omega), cond_false, beqDec]
            by_cases l2 : x.length = y.length
            · rw [decide_eq_true (show (x.length : Int) = (y.length : Int) by omega), cond_true, B46, if_pos (by omega), Option.bind_some]
              cases ebf : bf x y with
              | true => exact inner True fun y' hy' => by obtain rfl := Option.some.inj hy'; exact .inr ⟨l2, ebf⟩
              | false =>
                rw [Bool.not_false, cond_true]
                refine go (some y, who) (hI.skip hPx (.inr ⟨y, rfl, .inr ⟨l2.symm, ?_⟩⟩))
                rcases bf_tri x y with h | h | h
                · exact .inl h
                · rw [ebf] at h; cases h
                · exact .inr h
            · rw [decide_eq_false (show ¬ (x.length : Int) = (y.length : Int) by omega), cond_false]
              exact inner True fun y' hy' => by obtain rfl := Option.some.inj hy'; exact .inl (by omega)
      · rw [decide_eq_true (show (x.length : Int) > (zn : Int) by omega), cond_true]
        exact go (b, who) (hI.same fun u => by rw [hPn]; exact ⟨fun h => h.elim id fun h => absurd h.1 hl, .inl⟩)
    · have hb := hI.same (P' := isCo c.2.1.length zn) fun x => ⟨fun h => ⟨h, by
        rw [Int.toNat_natCast]
        exact num_lt (Nat.two_pow_pos _) fun e he => h.2.2.2 e he⟩, fun h => h.1⟩
      have hfr : frA c (zn : Int) = b := (frA_best (z := (zn : Int))).uniq (by rw [Int.toNat_natCast]; exact hb)
      have h34 : B34 c (zn : Int) = some (frR b) := by
        rw [B34, if_pos hsm, decide_eq_true hc, cond_true, decide_eq_true (show 1 ≤ (zn : Int) ∧ (zn : Int) ≤ 10 by omega), cond_true, hfr]
      simp only [l9a, chk_dec (show 0 ≤ (c.2.1.length : Int) by omega), one_i64 (show c.2.1.length < 62 by omega), decide_eq_false (Int.lt_irrefl _), cond_false, eN, h34, Option.bind_some]
      obtain ⟨b, who⟩ := b
      cases eb : b with
      | none => rfl
      | some y =>
        subst eb
        simp only [frR, Option.isNone_some, cond_false, Option.getD_some]
        rcases hb with ⟨h1, _⟩ | ⟨y', h1, h2, h3, _⟩
        · cases h1
        · obtain rfl := Option.some.inj h1
          have hyl := isCo_len h2
          have h36 : B36 c = some (dbV c) := if_pos hsm
          rw [show ((0 : Int) != 0) = false from rfl, cond_false, B32, if_pos (by omega), Option.bind_some, decide_eq_true rfl, Bool.not_true, cond_false, show (who != who) = false by simp, cond_false, h36, Option.bind_some]
          by_cases l2 : y.length ≤ 2
          · rw [framed_doubt hc h2 l2 h3]
            cases decide ((y.length : Int) > 2) <;> rfl
          · rw [decide_eq_true (show (y.length : Int) > 2 by omega)]; rfl
    · exact absurd hx.2 (by have := (bs_nil (N := c.2.1.length) (s := 0) (Nat.two_pow_pos _)); intro hlt; have h0 : num x = 0 := by omega
                            have := bs_num hx.1.2.2.1 hx.1.2.2.2
                            rw [h0] at this
                            exact hx.1.1 (by rw [← this]; exact (bs_nil (Nat.two_pow_pos _)).2 rfl))
  · cases h⟩
end Go.Proofs.YtbjfbbfglkmadaaDoor
