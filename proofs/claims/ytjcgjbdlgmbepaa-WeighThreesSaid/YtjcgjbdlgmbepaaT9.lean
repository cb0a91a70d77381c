/-
  The law WeighThrees.
-/
import Derived.Test.YtjcgjbdlgmbepaaT8
namespace Go.Proofs.Ytjcgjbdlgmbepaa
open Go.RowKit
set_option linter.unusedVariables false

/-! ### maps from numbers to truth -/
abbrev put (m : List (Int × Bool)) (x : Int) : List (Int × Bool) := mput (kt := .int .i64) (vt := .bool) m x true
abbrev get (m : List (Int × Bool)) (x : Int) : Option Bool := mget (kt := .int .i64) (vt := .bool) m x
theorem get_of : ∀ {m : List (Int × Bool)} {x : Int}, (∀ p ∈ m, p.2 = true) → (get m x).getD false = decide (x ∈ m.map (·.1))
  | [], x, _ => rfl
  | p :: m, x, h => by
    have ih := get_of (m := m) (x := x) fun q hq => h q (List.mem_cons_of_mem _ hq)
    show (cond (decide (x = p.1)) (some p.2) (get m x)).getD false = _
    by_cases c : x = p.1
    · rw [decide_eq_true c, cond_true, h p (List.mem_cons_self ..)]; simp [c]
    · rw [decide_eq_false c, cond_false, ih, List.map_cons]
      exact decide_eq_decide.2 ⟨fun h => List.mem_cons_of_mem _ h, fun h => (List.mem_cons.1 h).resolve_left c⟩
theorem put_of : ∀ {m : List (Int × Bool)} {x : Int}, (∀ p ∈ m, p.2 = true) → (m.map (·.1)).Nodup →
    (∀ p ∈ put m x, p.2 = true) ∧ ((put m x).map (·.1)).Nodup ∧ ∀ y, y ∈ (put m x).map (·.1) ↔ y ∈ m.map (·.1) ∨ y = x
  | [], x, _, _ => by
    show (∀ p ∈ [(x, true)], p.2 = true) ∧ (([(x, true)] : List (Int × Bool)).map (·.1)).Nodup ∧ ∀ y, y ∈ ([(x, true)] : List (Int × Bool)).map (·.1) ↔ y ∈ ([] : List (Int × Bool)).map (·.1) ∨ y = x
    simp
  | p :: m, x, h, hn => by
    rw [List.map_cons, List.nodup_cons] at hn
    obtain ⟨a, b, c⟩ := put_of (m := m) (x := x) (fun q hq => h q (List.mem_cons_of_mem _ hq)) hn.2
    have e : put (p :: m) x = cond (decide (x = p.1)) ((x, true) :: m) (p :: put m x) := rfl
    rw [e]
    by_cases d : x = p.1
    · rw [decide_eq_true d, cond_true]
      refine ⟨fun q hq => ?_, ?_, fun y => ?_⟩
      · rcases List.mem_cons.1 hq with rfl | hq
        · rfl
        · exact h q (List.mem_cons_of_mem _ hq)
      · rw [List.map_cons, List.nodup_cons]; exact ⟨by rw [d]; exact hn.1, hn.2⟩
      · rw [List.map_cons, List.map_cons, List.mem_cons, List.mem_cons]
        constructor
        · rintro (h | h)
          · exact .inr h
          · exact .inl (.inr h)
        · rintro ((h | h) | h)
          · exact .inl (h.trans d.symm)
          · exact .inr h
          · exact .inl h
    · rw [decide_eq_false d, cond_false]
      refine ⟨fun q hq => ?_, ?_, fun y => ?_⟩
      · rcases List.mem_cons.1 hq with rfl | hq
        · exact h q (List.mem_cons_self ..)
        · exact a q hq
      · rw [List.map_cons, List.nodup_cons]
        exact ⟨fun hm => ((c _).1 hm).elim hn.1 fun e => d e.symm, b⟩
      · rw [List.map_cons, List.map_cons, List.mem_cons, List.mem_cons, c]
        constructor
        · rintro (h | h | h)
          · exact .inl (.inl h)
          · exact .inl (.inr h)
          · exact .inr h
        · rintro ((h | h) | h)
          · exact .inl h
          · exact .inr (.inl h)
          · exact .inr (.inr h)

/-! ### each -/
def stp (ws : List Int) (s : Int × List (Int × Bool)) (l : List Int) : Int × List (Int × Bool) := (s.1 + 1, cond (decide (bal ws l > 0)) (put s.2 (bal ws l)) s.2)
def ok45' (l ws : List Int) (c : Int) : Prop := wE ws = 0 ∧ l.length = ws.length ∧ okLay l = true ∧ 0 ≤ c ∧ c ≤ 100000
instance (l ws : List Int) (c : Int) : Decidable (ok45' l ws c) := inferInstanceAs (Decidable (_ ∧ _))
def B45 (l : List Int) (c : Int) (ws : List Int) (m : List (Int × Bool)) : Option (Int × List Int × List (Int × Bool)) :=
  if ok45' l ws c then some ((stp ws (c, m) l).1, ws, (stp ws (c, m) l).2) else none
theorem KB45 : FnOk Try.prog 45 (F45c B45) := ok45c B46 KB46 B45 fun l c ws m r h => ⟨0, by
  simp only [B45] at h
  split at h
  · rename_i hk
    obtain ⟨h1, h2, h3, h4, h5⟩ := hk
    rw [← h, m45c, B46, if_pos ⟨h1, h2, h3⟩, Option.bind_some, w64_small (show -4611686018427387904 ≤ c + 1 ∧ c + 1 ≤ 4611686018427387904 by omega)]
    show cond (decide (bal ws l > 0)) _ _ = some (c + 1, ws, cond (decide (bal ws l > 0)) (put m (bal ws l)) m)
    cases decide (bal ws l > 0) <;> rfl
  · cases h⟩
theorem stp_cnt {ws : List Int} : ∀ (xs : List (List Int)) (s : Int × List (Int × Bool)), (xs.foldl (stp ws) s).1 = s.1 + (xs.length : Int)
  | [], s => by simp
  | x :: xs, s => by rw [List.foldl_cons, stp_cnt xs, List.length_cons]; show s.1 + 1 + _ = _; omega
def ok44c (k : Nat) (n0 : Int) (l : List Int) (c : Int) (ws : List Int) : Prop := 0 ≤ n0 ∧ n0 < (k : Int) ∧ (l.length : Int) + n0 = (ws.length : Int) ∧ okLay l = true ∧ wE ws = 0 ∧ 0 ≤ c ∧ c + 3 ^ n0.toNat ≤ 100000
instance (k : Nat) (n0 : Int) (l : List Int) (c : Int) (ws : List Int) : Decidable (ok44c k n0 l c ws) := inferInstanceAs (Decidable (_ ∧ _))
def fld (ws l : List Int) (k : Nat) (s : Int × List (Int × Bool)) : Int × List (Int × Bool) := ((lays k).map (l ++ ·)).foldl (stp ws) s
def B44c (k : Nat) (n0 : Int) (l : List Int) (c : Int) (ws : List Int) (m : List (Int × Bool)) : Option (Int × List Int × List (Int × Bool)) :=
  if ok44c k n0 l c ws then some ((fld ws l n0.toNat (c, m)).1, ws, (fld ws l n0.toNat (c, m)).2) else none
theorem fld_cnt {ws l : List Int} {k : Nat} {s : Int × List (Int × Bool)} : (fld ws l k s).1 = s.1 + 3 ^ k := by
  rw [fld, stp_cnt, List.length_map, lays_length]; simp
theorem KB44c : ∀ k, FnOk Try.prog 44 (F44c45 (B44c k))
  | 0 => by
    intro args Of x hx
    simp only [F44c45] at hx
    split at hx
    · simp only [B44c] at hx
      rw [if_neg (by intro h; have := h.1; have := h.2.1; omega)] at hx
      cases hx
    · cases hx
  | k + 1 => ok44c45 (B44c k) B45 B51t (KB44c k) KB45 KB51t (B44c (k + 1)) fun n0 l c ws m r h => ⟨1001, by
    simp only [B44c] at h
    split at h
    · rename_i hk
      obtain ⟨h0, hk1, hl, ho, hw, hc0, hc1⟩ := hk
      have h7 := (wE_zero hw).1
      rw [← h, m44c45]
      by_cases hz : n0 = 0
      · subst hz
        have hc1 : c + 1 ≤ 100000 := by simpa using hc1
        rw [show ((0 : Int) == 0) = true from rfl, cond_true, B45, if_pos ⟨hw, by omega, ho, hc0, by omega⟩, Option.bind_some]
        have e : fld ws l (0 : Int).toNat (c, m) = stp ws (c, m) l := by
          show (([[]] : List (List Int)).map (l ++ ·)).foldl (stp ws) (c, m) = _
          simp only [List.map_cons, List.map_nil, List.foldl_cons, List.foldl_nil, List.append_nil]
        rw [e]
      · rw [beq_false_of_ne hz, cond_false]
        have hs1 : small (0 + l.length) 8 = true := small_of (by omega) (by omega)
        have hs2 : small (([] ++ l : List Int).length + 1) 8 = true := small_of (by simp; omega) (by omega)
        obtain ⟨q, rfl⟩ : ∃ q : Nat, n0 = (q : Int) + 1 := ⟨(n0 - 1).toNat, by omega⟩
        have em : ((q : Int) + 1 - 1) = (q : Int) := by omega
        have hwm : w64 (q : Int) = (q : Int) := w64_small (by omega)
        have em2 : ((q : Int) + 1).toNat = q + 1 := by omega
        rw [em2, Int.pow_succ] at hc1
        have hp3 : (0 : Int) < 3 ^ q := Int.pow_pos (by omega)
        have one : ∀ (f : Nat) (t : Nat) (v : Int) (s : Int × List (Int × Bool)), t < 3 → ([1, 0, -1] : List Int).getD t 0 = v → IsWay v → 0 ≤ s.1 → s.1 + 3 ^ q ≤ 100000 → l44c45a (B44c k) B45 B51t 1001 ((q : Int) + 1) l [1, 0, -1] (f + 1) (t : Int) s.1 ws s.2 =
            l44c45a (B44c k) B45 B51t 1001 ((q : Int) + 1) l [1, 0, -1] f ((t + 1 : Nat) : Int) (fld ws (l ++ [v]) q s).1 ws (fld ws (l ++ [v]) q s).2 := by
          intro f t v s ht hv hw' hs0 hs3
          have call : B44c k (q : Int) ([] ++ l ++ [v]) s.1 ws s.2 = some ((fld ws (l ++ [v]) q s).1, ws, (fld ws (l ++ [v]) q s).2) := by
            rw [List.nil_append, B44c, if_pos ⟨by omega, by omega, by simp; omega, okLay_snoc ho hw', hw, hs0, by rw [Int.toNat_natCast]; exact hs3⟩, Int.toNat_natCast]
          simp only [l44c45a, ixA (show t < ([1, 0, -1] : List Int).length from ht), ixB (show t < ([1, 0, -1] : List Int).length from ht), cond_true, chk_true, Int.toNat_natCast, hv, hs1, hs2, em, hwm, call, Option.bind_some, w64_succ (show t < 4611686018427387904 by omega)]
        have split : fld ws l (q + 1) (c, m) = fld ws (l ++ [-1]) q (fld ws (l ++ [0]) q (fld ws (l ++ [1]) q (c, m))) := lays_split (stp ws) l q (c, m)
        have c1 : (fld ws (l ++ [1]) q (c, m)).1 = c + 3 ^ q := fld_cnt
        have c2 : (fld ws (l ++ [0]) q (fld ws (l ++ [1]) q (c, m))).1 = c + 3 ^ q + 3 ^ q := by rw [fld_cnt, c1]
        show l44c45a (B44c k) B45 B51t 1001 ((q : Int) + 1) l [1, 0, -1] 1001 ((0 : Nat) : Int) (c, m).1 ws (c, m).2 = _
        rw [em2, split, one 1000 0 1 (c, m) (by omega) rfl (.inl rfl) hc0 (by show c + _ ≤ _; omega), one 999 1 0 _ (by omega) rfl (.inr (.inl rfl)) (by omega) (by omega), one 998 2 (-1) _ (by omega) rfl (.inr (.inr rfl)) (by omega) (by omega)]
        rfl
    · cases h⟩

/-! ### all loads -/
def MI (ws : List Int) (pre : List (List Int)) (m : List (Int × Bool)) : Prop := (∀ p ∈ m, p.2 = true) ∧ (m.map (·.1)).Nodup ∧ ∀ y, y ∈ m.map (·.1) ↔ ∃ l ∈ pre, bal ws l = y ∧ 0 < y
theorem mi_step {ws : List Int} {pre : List (List Int)} {s : Int × List (Int × Bool)} {x : List Int} (h : MI ws pre s.2) : MI ws (pre ++ [x]) (stp ws s x).2 := by
  obtain ⟨h1, h2, h3⟩ := h
  show MI ws (pre ++ [x]) (cond (decide (bal ws x > 0)) (put s.2 (bal ws x)) s.2)
  by_cases c : bal ws x > 0
  · rw [decide_eq_true c, cond_true]
    obtain ⟨a, b, d⟩ := put_of (x := bal ws x) h1 h2
    refine ⟨a, b, fun y => ?_⟩
    rw [d, h3]
    constructor
    · rintro (⟨l, hl, e⟩ | rfl)
      · exact ⟨l, List.mem_append_left _ hl, e⟩
      · exact ⟨x, by simp, rfl, c⟩
    · rintro ⟨l, hl, e⟩
      rcases List.mem_append.1 hl with hl | hl
      · exact .inl ⟨l, hl, e⟩
      · rw [List.mem_singleton.1 hl] at e; exact .inr e.1.symm
  · rw [decide_eq_false c, cond_false]
    refine ⟨h1, h2, fun y => ?_⟩
    rw [h3]
    constructor
    · rintro ⟨l, hl, e⟩; exact ⟨l, List.mem_append_left _ hl, e⟩
    · rintro ⟨l, hl, e⟩
      rcases List.mem_append.1 hl with hl | hl
      · exact ⟨l, hl, e⟩
      · rw [List.mem_singleton.1 hl] at e; omega
theorem mi_all {ws : List Int} : ∀ (xs pre : List (List Int)) (s : Int × List (Int × Bool)), MI ws pre s.2 → MI ws (pre ++ xs) (xs.foldl (stp ws) s).2
  | [], pre, s, h => by simpa using h
  | x :: xs, pre, s, h => by
    have := mi_all xs (pre ++ [x]) _ (mi_step (x := x) h)
    simpa using this
theorem mi_full (ws : List Int) : MI ws (lays ws.length) (fld ws [] ws.length (0, [])).2 := by
  have e : (lays ws.length).map (([] : List Int) ++ ·) = lays ws.length := Eq.trans (List.map_congr_left fun x _ => List.nil_append x) (List.map_id _)
  have := mi_all (ws := ws) (lays ws.length) [] (0, []) ⟨by simp, by simp, by simp⟩
  rw [fld, e]
  simpa using this

/-! ### WeighThrees -/
theorem pow_small : ∀ a ∈ [1, 2, 3, 4, 5], ∀ k ∈ [1, 2, 3, 4, 5, 6, 7], (3 : Int) ^ (k - 1) < 3 ^ a → k ≤ a := by decide
theorem threes_law (N : Nat) (hN : 20000 ≤ N) (b : List Int) (n : Int) (hb : bytesOk b) (hn : 0 ≤ n ∧ n ≤ 65535) : m8 (some true) B17 B19 B24 B26 B43 (B44c 10) N b n = some true := by
  obtain ⟨ws, e43, M⟩ := made_is b hb
  have hlen := M.len
  have hw := M.ok
  have hP := M.Pos
  have hposb : ∀ w ∈ ws, 1 ≤ w ∧ w ≤ 56 := M.pos
  have lo : B17 ws = some (posL ws, 0) := by rw [B17, loadsS, hw]; rfl
  have ro : B19 ws = some (rl 0 (posL ws), 0) := by rw [B19, reachS, hw]; rfl
  have h3 : (3 : Nat) ^ ws.length ≤ 3 ^ 5 := Nat.pow_le_pow_right (by omega) hlen.2
  have h3i : ((3 ^ ws.length : Nat) : Int) = (3 : Int) ^ ws.length := by simp
  have h3p : 0 < (3 : Nat) ^ ws.length := Nat.pow_pos (by omega)
  have hsl := sumS_len ws [0]
  have hhalf := (half ws).1
  have hle : 2 * (posL ws).length + 1 ≤ 3 ^ ws.length := by
    have : (sumS ws).length ≤ 3 ^ ws.length * 1 := hsl
    omega
  have h243 : (3 : Nat) ^ 5 = 243 := rfl
  have hla : (posL ws).length ≤ 121 := by omega
  have e44 : B44c 10 (ws.length : Int) [] 0 ws [] = some ((fld ws [] ws.length (0, [])).1, ws, (fld ws [] ws.length (0, [])).2) := by
    rw [B44c, if_pos ⟨by omega, by omega, by simp, rfl, hw, by omega, by rw [Int.toNat_natCast, ← h3i]; omega⟩, Int.toNat_natCast]
  obtain ⟨mi1, mi2, mi3⟩ := mi_full ws
  have ecnt : (fld ws [] ws.length (0, [])).1 = ((3 ^ ws.length : Nat) : Int) := by rw [fld_cnt, h3i]; simp
  rw [m8, e43, Option.bind_some, e44, Option.bind_some]
  simp only [lo, ro, Option.bind_some, ecnt]
  generalize (fld ws [] ws.length (0, [])).2 = can at mi1 mi2 mi3
  have keys : ∀ y, y ∈ can.map (·.1) ↔ y ∈ posL ws := fun y => by
    rw [mi3, mem_posL, R_lays]
    exact ⟨fun ⟨l, h1, h2, h3⟩ => ⟨⟨l, h1, h2⟩, h3⟩, fun ⟨⟨l, h1, h2⟩, h3⟩ => ⟨l, h1, h2, h3⟩⟩
  have hcl : can.length = (posL ws).length := by
    have nd : (posL ws).Nodup := (posL_asc ws).imp fun h => by omega
    have := ((List.perm_ext_iff_of_nodup mi2 nd).2 keys).length_eq
    simpa using this
  have hget : ∀ x, (mget (kt := .int .i64) (vt := .bool) can x).getD false = decide (x ∈ posL ws) := fun x => (get_of mi1).trans (decide_eq_decide.2 (keys x))
  have hr0 := rl_le (posL ws) 0
  have hr1 := rl_bound (posL ws) 0
  have hpp : ∀ x ∈ posL ws, 0 < x := fun x hx => (mem_posL.1 hx).2
  have ew : w64 (1 + (Int.tmod (w64 (n)) 1093)) = 1 + n % 1093 := by
    rw [w64_small (x := n) (by omega), Int.tmod_eq_emod_of_nonneg hn.1, w64_small (by omega)]
  have hwant : 1 ≤ 1 + n % 1093 ∧ 1 + n % 1093 ≤ 1093 := by omega
  generalize 1 + n % 1093 = want at ew hwant
  obtain ⟨s26, _⟩ := set_ok hwant
  obtain ⟨k1, k7, k3, kl⟩ := fewK_le hwant
  obtain ⟨r, er, hr⟩ := set_reach hwant
  have e24 : B24 want = some ((fewK want : Int), 0) := by rw [B24, m24, s26, Option.bind_some, threes_len]
  have e19 : B19 (threes (fewK want)) = some (r, 0) := by rw [B19, er]
  generalize hk : fewK want = k at s26 e24 k1 k7 k3 kl e19
  have hreach_w : w64 (rl 0 (posL ws) + 1) = rl 0 (posL ws) + 1 := w64_small (by omega)
  have hnot := rl_not (posL ws) 0 (posL_asc ws) hpp
  have e2a : w64 (2 * ((posL ws).length : Int)) = 2 * ((posL ws).length : Int) := w64_small (by omega)
  have e2b : w64 (((3 ^ ws.length : Nat) : Int) - 1) = ((3 ^ ws.length : Nat) : Int) - 1 := w64_small (by omega)
  simp only [bne_self_eq_false, cond_false, hcl, e2a, e2b, decide_eq_false (show ¬ 2 * ((posL ws).length : Int) > ((3 ^ ws.length : Nat) : Int) - 1 by omega), decide_eq_false (show ¬ rl 0 (posL ws) < 0 by omega), decide_eq_false (show ¬ rl 0 (posL ws) > 500 by omega)]
  -- the last loop
  have c8 : l8c (some true) B17 B19 B24 B26 B43 (B44c 10) N n (((3 ^ ws.length : Nat) : Int), ws, can) (rl 0 (posL ws), 0) ((k : Int), 0) (threes k, 0) N 0 0 1 0 = some true := by
    exact countUp 0 (k : Int) (by omega) (fun m (s : Int × Int × Int) t => l8c (some true) B17 B19 B24 B26 B43 (B44c 10) N n (((3 ^ ws.length : Nat) : Int), ws, can) (rl 0 (posL ws), 0) ((k : Int), 0) (threes k, 0) m s.1 s.2.1 s.2.2 t)
      (fun t s => s.2.2 = 3 ^ t.toNat ∧ 2 * s.1 + 1 = 3 ^ t.toNat ∧ (0 < t → 2 * s.2.1 + 1 = 3 ^ (t.toNat - 1)) ∧ (t = 0 → s.2.1 = 0)) (fun _ _ => some true)
      (fun m s t t0 t1 hI ih => by
        obtain ⟨i1, i2, i3, i4⟩ := hI
        obtain ⟨j, rfl⟩ : ∃ j : Nat, t = (j : Int) := ⟨t.toNat, by omega⟩
        rw [Int.toNat_natCast] at i1 i2
        have hb : (3 : Int) ^ j ≤ 3 ^ 7 := by
          have : (3 : Nat) ^ j ≤ 3 ^ 7 := Nat.pow_le_pow_right (by omega) (by omega)
          have e : ((3 ^ j : Nat) : Int) = (3 : Int) ^ j := by simp
          rw [← e]; exact Int.ofNat_le.2 this
        have hb7 : (3 : Int) ^ 7 = 2187 := rfl
        have hp : (0 : Int) < 3 ^ j := Int.pow_pos (by omega)
        simp only [l8c, decide_eq_true t1, cond_true, w64_small (show -4611686018427387904 ≤ s.1 + s.2.2 ∧ s.1 + s.2.2 ≤ 4611686018427387904 by omega), w64_small (show -4611686018427387904 ≤ 3 * s.2.2 ∧ 3 * s.2.2 ≤ 4611686018427387904 by omega), w64_small (show -4611686018427387904 ≤ (j : Int) + 1 ∧ (j : Int) + 1 ≤ 4611686018427387904 by omega)]
        refine ih (s.1 + s.2.2, s.1, 3 * s.2.2) ⟨?_, ?_, fun _ => ?_, fun h => by omega⟩
        · show 3 * s.2.2 = 3 ^ ((j : Int) + 1).toNat
          rw [show ((j : Int) + 1).toNat = j + 1 by omega, Int.pow_succ, i1]; omega
        · show 2 * (s.1 + s.2.2) + 1 = 3 ^ ((j : Int) + 1).toNat
          rw [show ((j : Int) + 1).toNat = j + 1 by omega, Int.pow_succ]; omega
        · show 2 * s.1 + 1 = 3 ^ (((j : Int) + 1).toNat - 1)
          rw [show ((j : Int) + 1).toNat - 1 = j by omega]; exact i2)
      (fun m s hI => by
        obtain ⟨i1, i2, i3, i4⟩ := hI
        rw [Int.toNat_natCast] at i1 i2 i3
        have i3 := i3 (by omega)
        simp only [l8c, decide_eq_false (show ¬ (k : Int) < (k : Int) by omega), cond_false, e19, Option.bind_some, ew, decide_eq_true (show s.1 ≥ want by omega), decide_eq_true (show s.2.1 < want by omega), cond_true, beq_self_eq_true, decide_eq_true (show r ≥ want from hr)]
        by_cases c : rl 0 (posL ws) < want
        · rw [decide_eq_true c, cond_true]
        · have hkl : k ≤ ws.length := by
            refine pow_small ws.length (by simp; omega) k (few_mem ⟨k1, k7⟩) ?_
            rw [← h3i]; omega
          rw [decide_eq_false c, cond_false, decide_eq_true (show (ws.length : Int) ≥ (k : Int) by omega), cond_true]) N (0, 0, 1) (by omega) ⟨rfl, rfl, fun h => by omega, fun _ => rfl⟩
  -- the reach
  have b8 : l8b (some true) B17 B19 B24 B26 B43 (B44c 10) N n (((3 ^ ws.length : Nat) : Int), ws, can) (rl 0 (posL ws), 0) N 1 = some true := by
    exact countUp 1 (rl 0 (posL ws) + 1) (by omega) (fun m (_ : Unit) t => l8b (some true) B17 B19 B24 B26 B43 (B44c 10) N n (((3 ^ ws.length : Nat) : Int), ws, can) (rl 0 (posL ws), 0) m t) (fun _ _ => True) (fun _ _ => some true)
      (fun m _ t t0 t1 _ ih => by
        have hm := rl_all (posL ws) 0 t (by omega) (by omega)
        simp only [l8b, decide_eq_true (show t ≤ rl 0 (posL ws) by omega), cond_true, hget, decide_eq_true hm, Bool.not_true, cond_false, w64_small (show -4611686018427387904 ≤ t + 1 ∧ t + 1 ≤ 4611686018427387904 by omega)]
        exact ih () trivial)
      (fun m _ _ => by
        simp only [l8b, decide_eq_false (show ¬ rl 0 (posL ws) + 1 ≤ rl 0 (posL ws) by omega), cond_false, hreach_w, hget, decide_eq_false hnot, ew, e24, s26, Option.bind_some, bne_self_eq_false, threes_len, decide_eq_false (show ¬ (k : Int) < 1 by omega), decide_eq_false (show ¬ (k : Int) > 7 by omega)]
        exact c8) N () (by omega) trivial
  exact rangeIx (posL ws) 0 (fun m (_ : Unit) t => l8a (some true) B17 B19 B24 B26 B43 (B44c 10) N n (((3 ^ ws.length : Nat) : Int), ws, can) (posL ws, 0) (rl 0 (posL ws), 0) m t) (fun _ _ _ => True) (fun _ _ _ => some true)
    (fun m _ t x rest ht hx _ ih => by
      have hm := getD_mem ht hx
      have ih := ih () trivial
      simp only [l8a, ixA ht, ixB ht, cond_true, chk_true, Int.toNat_natCast, hx, hget, decide_eq_true hm, Bool.not_true, cond_false, ixW ht (by omega), ih]
      by_cases e0 : t = 0
      · subst e0; rfl
      · have e1 : decide ((t : Int) > 0) = true := decide_eq_true (by omega)
        have e2 : w64 ((t : Int) - 1) = ((t - 1 : Nat) : Int) := by rw [w64_small (by omega)]; omega
        have hlt : (posL ws).getD (t - 1) 0 < x := by
          have := List.pairwise_iff_getElem.1 (posL_asc ws) (t - 1) t (by omega) ht (by omega)
          rw [← hx, List.getD_eq_getElem?_getD, List.getD_eq_getElem?_getD, List.getElem?_eq_getElem ht, List.getElem?_eq_getElem (by omega)]
          exact this
        rw [e1, cond_true, e2, Int.toNat_natCast, ixB (show t - 1 < (posL ws).length by omega), chk_true, decide_eq_false (show ¬ x ≤ (posL ws).getD (t - 1) 0 by omega), cond_false])
    (fun m _ _ => by
      simp only [l8a, ixE, cond_false]
      exact b8) N () (by omega) trivial
theorem KB8 (b : List Int) (n : Int) (hb : bytesOk b) (hn : 0 ≤ n ∧ n ≤ 65535) : FnOk Try.prog 8 (F8 fun c m => if c = b ∧ m = n then some true else none) :=
  ok8 (some true) B17 B19 B24 B26 B43 (B44c 10) K16t KB17 KB19 KB24 KB26 KB43 (KB44c 10) _ fun c m r h => ⟨20000, by
    split at h
    · rename_i hc
      rw [← h, hc.1, hc.2]; exact threes_law 20000 (Nat.le_refl _) b n hb hn
    · cases h⟩
end Go.Proofs.Ytjcgjbdlgmbepaa
