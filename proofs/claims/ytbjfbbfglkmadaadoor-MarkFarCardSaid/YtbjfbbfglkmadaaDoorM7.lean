/-
 Who is guilty, who is nearest: what the program computes.
-/
import Derived.Test.YtbjfbbfglkmadaaDoorM5
namespace Go.Proofs.YtbjfbbfglkmadaaDoor
open Go.RowKit
set_option linter.unusedVariables false

theorem eachF_of {β : Type} {f : β → List β → Option Unit} : ∀ (r pre : List β) (p : β), (∀ u q v, pre ++ p :: r = u ++ q :: v → f q (u ++ v) = some ()) → eachF f pre p r = some ()
 | [], pre, p, h => by
  have := h pre p [] rfl
  rw [List.append_nil] at this
  exact this
 | x :: r, pre, p, h => by
  rw [eachF, h pre p (x :: r) rfl, eachF_of r (pre ++ [p]) x fun u q v e => h u q v (by rw [← e, List.append_assoc]; rfl)]
  rfl
theorem eachK_of {β : Type} {f : β → List β → Option Unit} {x0 : Option Unit} : ∀ (l : List β), (l = [] → x0 = some ()) → (∀ u q v, l = u ++ q :: v → f q (u ++ v) = some ()) → eachK l x0 f = some ()
 | [], h, _ => h rfl
 | p :: r, _, h => eachF_of r [] p fun u q v e => h u q v e
theorem beqI (x y : Int) : DT.beq (.int .i64) x y = decide (x = y) := by
 show (x == y) = _
 rw [beqDec]
abbrev Mp := List (Int × Int)
abbrev mputI (o : Mp) (x y : Int) : Mp := mput (kt := .int .i64) (vt := .int .i64) o x y
abbrev mgetI (o : Mp) (x : Int) : Option Int := mget (kt := .int .i64) (vt := .int .i64) o x
theorem mputI_cons (p : Int × Int) (r : Mp) (x y : Int) : mputI (p :: r) x y = cond (decide (x = p.1)) ((x, y) :: r) (p :: mputI r x y) := by
 show cond (DT.beq (.int .i64) x p.1) _ _ = _
 rw [beqI]
theorem mgetI_cons (p : Int × Int) (r : Mp) (x : Int) : mgetI (p :: r) x = cond (decide (x = p.1)) (some p.2) (mgetI r x) := by
 show cond (DT.beq (.int .i64) x p.1) _ _ = _
 rw [beqI]
theorem mput_mem (x y : Int) : ∀ {o : Mp}, (o.map (·.1)).Nodup → ((mputI o x y).map (·.1)).Nodup ∧ ∀ k v, (k, v) ∈ mputI o x y ↔ (k = x ∧ v = y) ∨ (k ≠ x ∧ (k, v) ∈ o)
 | [], _ => by
  refine ⟨List.pairwise_singleton _ _, fun k v => ?_⟩
  show (k, v) ∈ [(x, y)] ↔ _
  simp
 | p :: r, h => by
  rw [List.map_cons, List.nodup_cons] at h
  obtain ⟨h1, h2⟩ := h
  rw [mputI_cons]
  by_cases e : x = p.1
  ·rw [decide_eq_true e, cond_true]
   refine ⟨by rw [List.map_cons, List.nodup_cons]; exact ⟨by rw [e]; exact h1, h2⟩, fun k v => ?_⟩
   have hx : ∀ v, (x, v) ∉ r := fun v hv => h1 (List.mem_map.2 ⟨(x, v), hv, e⟩)
   obtain ⟨p1, p2⟩ := p
   simp only [List.mem_cons, pjq] at e ⊢
   constructor
   ·rintro (h | h)
    ·exact .inl h
    ·exact .inr ⟨fun q => hx v (q ▸ h), .inr h⟩
   ·rintro (h | ⟨h, h' | h'⟩)
    ·exact .inl h
    ·exact absurd (h'.1.trans e.symm) h
    ·exact .inr h'
  ·rw [decide_eq_false e, cond_false]
   obtain ⟨i1, i2⟩ := mput_mem x y h2
   refine ⟨by
    rw [List.map_cons, List.nodup_cons]
    refine ⟨fun hm => ?_, i1⟩
    obtain ⟨⟨k, v⟩, hq, hk⟩ := List.mem_map.1 hm
    rcases (i2 k v).1 hq with h | h
    ·exact e (h.1 ▸ hk)
    ·exact h1 (List.mem_map.2 ⟨(k, v), h.2, hk⟩), fun k v => ?_⟩
   obtain ⟨p1, p2⟩ := p
   rw [List.mem_cons, i2, List.mem_cons, pjq]
   constructor
   ·rintro (h | h | h)
    ·exact .inr ⟨fun q => e (q ▸ h.1), .inl h⟩
    ·exact .inl h
    ·exact .inr ⟨h.1, .inr h.2⟩
   ·rintro (h | ⟨h, h' | h'⟩)
    ·exact .inr (.inl h)
    ·exact .inl h'
    ·exact .inr (.inr ⟨h, h'⟩)
theorem mget_mem (x : Int) : ∀ (o : Mp), (match mgetI o x with | some v => (x, v) ∈ o | none => ∀ v, (x, v) ∉ o)
 | [] => fun v hv => by cases hv
 | p :: r => by
  rw [mgetI_cons]
  obtain ⟨p1, p2⟩ := p
  by_cases e : x = p1
  ·rw [decide_eq_true e, cond_true, e]; exact List.mem_cons_self
  ·rw [decide_eq_false e, cond_false]
   have := mget_mem x r
   cases hm : mgetI r x with
   | some v => rw [hm] at this; exact List.mem_cons_of_mem _ this
   | none =>
    rw [hm] at this
    intro v hv
    rcases List.mem_cons.1 hv with h | h
    ·exact e (congrArg Prod.fst h)
    ·exact this v h
def Cnt (P : List Int) (o : Mp) : Prop := (o.map (·.1)).Nodup ∧ ∀ k v, (k, v) ∈ o ↔ k ∈ P ∧ v = (P.count k : Int)
theorem Cnt.get {P : List Int} {o : Mp} (h : Cnt P o) (x : Int) : (mgetI o x).getD 0 = (P.count x : Int) := by
 have := mget_mem x o
 cases hm : mgetI o x with
 | some v => rw [hm] at this; exact ((h.2 x v).1 this).2
 | none =>
  rw [hm] at this
  have : x ∉ P := fun hx => this _ ((h.2 x _).2 ⟨hx, rfl⟩)
  rw [List.count_eq_zero.2 this]; rfl
theorem Cnt.put {P : List Int} {o : Mp} (h : Cnt P o) (x : Int) : Cnt (P ++ [x]) (mputI o x ((P.count x : Int) + 1)) := by
 obtain ⟨h1, h2⟩ := mput_mem x ((P.count x : Int) + 1) h.1
 refine ⟨h1, fun k v => ?_⟩
 rw [h2, h.2, List.count_append, List.mem_append, List.mem_singleton]
 by_cases e : k = x
 ·subst e
  rw [show List.count k [k] = 1 by simp]
  constructor
  ·rintro (h | h)
   ·exact ⟨.inr rfl, by have := h.2; omega⟩
   ·exact absurd rfl h.1
  ·rintro ⟨_, h⟩
   exact .inl ⟨rfl, by omega⟩
 ·rw [show List.count k [x] = 0 from List.count_eq_zero.2 (by simpa using e)]
  constructor
  ·rintro (h | ⟨_, h⟩)
   ·exact absurd h.1 e
   ·exact ⟨.inl h.1, by have := h.2; omega⟩
  ·rintro ⟨h | h, h'⟩
   ·exact .inr ⟨e, h, by omega⟩
   ·exact absurd h e
theorem srt_congr {a b : List Int} (h : a.Perm b) : srt a = srt b :=
 List.Perm.eq_of_pairwise (le := fun a b => decide (a ≤ b) = true) (fun a b _ _ h1 h2 => by simp only [dtq] at h1 h2; omega) (srt_sorted a) (srt_sorted b) ((srt_perm a).trans (h.trans (srt_perm b).symm))
theorem srt_rise {a : List Int} (h : a.Pairwise (· < ·)) : srt a = a :=
 List.Perm.eq_of_pairwise (le := fun a b => decide (a ≤ b) = true) (fun a b _ _ h1 h2 => by simp only [dtq] at h1 h2; omega) (srt_sorted a) (h.imp fun h => decide_eq_true (by omega)) (srt_perm a)
def glF (fl : List Int) (L N t : Nat) : List Int := ((List.range' t (N - t)).map fun (i : Nat) => (i : Int)).filter fun i => decide (fl.count i = L)
def gl (c : Cd) (w : List Int) (z : Int) : List Int := glF (lnL c w z).flatten (lnL c w z).length c.2.1.length 0
theorem glF_mem {fl : List Int} {L N : Nat} {i : Int} : i ∈ glF fl L N 0 ↔ (0 ≤ i ∧ i < N) ∧ fl.count i = L := by
 simp only [glF, List.mem_filter, List.mem_map, List.mem_range'_1, dtq]
 constructor
 ·rintro ⟨⟨j, hj, rfl⟩, h⟩; exact ⟨by omega, h⟩
 ·rintro ⟨h1, h⟩; exact ⟨⟨i.toNat, by omega, by omega⟩, h⟩
theorem glF_rise (fl : List Int) (L N t : Nat) : (glF fl L N t).Pairwise (· < ·) := by
 unfold glF
 refine List.Pairwise.filter _ (List.pairwise_map.2 ((List.pairwise_lt_range' (s := t) (n := N - t)).imp fun h => by omega))
theorem lnL_mem {c : Cd} {w x : List Int} {z : Int} (h : x ∈ lnL c w z) : isCo c.2.1.length z.toNat x := co_mem.1 (List.mem_filter.1 h).1
theorem lnL_len {c : Cd} {w : List Int} {z : Int} (hn : c.2.1.length ≤ 10) : (lnL c w z).length ≤ 1024 := Nat.le_trans (List.length_filter_le _ _) (co_len hn)
theorem flat_len : ∀ {l : List (List Int)}, (∀ x ∈ l, x.length ≤ 10) → l.flatten.length ≤ 10 * l.length
 | [], _ => by simp
 | x :: r, h => by
  have := flat_len (l := r) fun y hy => h y (by simp [hy])
  have := h x (by simp)
  rw [List.flatten_cons, List.length_append, List.length_cons]; omega
theorem B73_of {l : List (List Int)} (h : l.length ≤ 1024) (hx : ∀ x ∈ l, x.length ≤ 10) : B73 l = some l.flatten := if_pos ⟨by omega, fun x h => by have := hx x h; omega⟩
def guV (c : Cd) (w : List Int) (z : Int) : List Int × Int := cond (decide (cwE c w = 0)) (cond (decide (1 ≤ z ∧ z ≤ 10)) (cond (decide ((lnL c w z).length = 0)) ([], 14) (gl c w z, 0)) ([], 4)) ([], cwE c w)
def B28 (c : Cd) (w : List Int) (z : Int) : Option (List Int × Int) := if smB c = true ∧ w.length ≤ 1000 then some (guV c w z) else none
theorem beqLen (v : Int) (n : Nat) : (v == (n : Int)) = decide (v = (n : Int)) := beqDec _ _
def flt (L : Nat) (o : Mp) : List Int := (o.filter fun p => decide (p.2 = (L : Int))).map (·.1)
theorem KB28 : FnOk Tryd.prog 28 (F28 B28) := ok28 B26 B73 A74 KB26 KB73 ok74 B28 fun c w z r h => ⟨20001, by
 simp only [B28] at h
 split at h
 ·rename_i hs
  obtain rfl := oij h
  rw [m28, B26, if_pos hs, Option.bind_some, guV, bneDec, lenEq0]
  cases e : decide (cwE c w = 0) with
  | false =>
   have h0 := of_decide_eq_false e
   simp only [cond_false]
   rw [decide_eq_false h0]
   simp [chk]
  | true =>
   have h0 := of_decide_eq_true e
   have hn := (cdE_ok (cwE_ok h0).1).2.1
   simp only [cond_true]
   cases e2 : decide (1 ≤ z ∧ z ≤ 10) with
   | false => simp [chk]
   | true =>
    simp only [cond_true, decide_true, Bool.not_true, cond_false]
    cases e3 : decide ((lnL c w z).length = 0) with
    | true => simp [chk]
    | false =>
     have hL0 := of_decide_eq_false e3
     simp only [cond_false]
     have hx10 : ∀ x ∈ lnL c w z, x.length ≤ 10 := fun x hx => by have := isCo_len (lnL_mem hx); omega
     have hfl := flat_len hx10
     have hL := lnL_len (c := c) (w := w) (z := z) hn.2
     have hmem : ∀ i ∈ (lnL c w z).flatten, 0 ≤ i ∧ i < (c.2.1.length : Int) := fun i hi => by
      obtain ⟨x, hx, hix⟩ := List.mem_flatten.1 hi
      exact (lnL_mem hx).2.2.2 i hix
     have hgl : gl c w z = glF (lnL c w z).flatten (lnL c w z).length c.2.1.length 0 := rfl
     rw [hgl]
     generalize lnL c w z = L at *
     have e73 : B73 L = some L.flatten := B73_of hL hx10
     rw [e73, Option.bind_some]
     generalize hF : L.flatten = fl at *
     -- the rounds over the map
     have rounds : ∀ (n : Nat) (out : List Int) (o : Mp), o.length < n → out.length + o.length ≤ 20000 → srt (out ++ flt L.length o) = glF fl L.length c.2.1.length 0 →
       l28b B26 B73 A74 (glF fl L.length c.2.1.length 0) 0 20001 (L, 0) n out o = some () := by
      intro n
      induction n with
      | zero => intro out o h; omega
      | succ n ih =>
       intro out o hlen hsum hsrt
       rw [l28b]
       refine eachK_of o (fun ho => ?_) fun u q v ho => ?_
       ·subst ho
        rw [show flt L.length [] = [] from rfl, List.append_nil] at hsrt
        simp only [List.length_nil] at hsum
        rw [A74, if_pos (by omega), Option.bind_some, hsrt]
        simp [chk]
       ·have hl2 : o.length = u.length + v.length + 1 := by rw [ho]; simp; omega
        have hfq : flt L.length o = flt L.length u ++ (flt L.length [q] ++ flt L.length v) := by
         rw [ho]
         simp only [flt, List.filter_append, List.filter_cons, List.filter_nil, List.map_append]
         cases decide (q.2 = (L.length : Int)) <;> simp
        have huv : flt L.length (u ++ v) = flt L.length u ++ flt L.length v := by simp only [flt, List.filter_append, List.map_append]
        simp only [beqLen]
        cases eq : decide (q.2 = (L.length : Int)) with
        | true =>
         rw [cond_true, chk_of (small_of (by omega) (by decide))]
         refine ih _ _ (by simp; omega) (by simp; omega) ?_
         rw [← hsrt]
         refine srt_congr ?_
         rw [hfq, huv, show flt L.length [q] = [q.1] by simp only [flt, List.filter_cons, eq]; rfl]
         rw [List.append_assoc]
         refine List.Perm.append_left out ?_
         rw [← List.append_assoc, ← List.append_assoc]
         exact List.Perm.append_right _ List.perm_append_comm
        | false =>
         rw [cond_false]
         refine ih _ _ (by simp; omega) (by simp; omega) ?_
         rw [← hsrt, hfq, huv, show flt L.length [q] = [] by simp only [flt, List.filter_cons, eq]; rfl, List.nil_append]
     refine rangeP fl 0 (fun n s t => l28a B26 B73 A74 (glF fl L.length c.2.1.length 0) 0 20001 (L, 0) fl n t s) (fun t rest s => Cnt (fl.take t) s ∧ s.length ≤ t) (fun r => r = some ()) (fun n s t x rest ht hx hd hI ih => ?_) (fun n s hI => ?_) 20001 [] (by omega) ⟨⟨List.nodup_nil, fun k v => by simp⟩, Nat.le_refl _⟩
     ·obtain ⟨i1, i2⟩ := hI
      have hc := i1.get x
      have hcl := List.count_le_length (a := x) (l := fl.take t)
      rw [List.length_take] at hcl
      have hput := i1.put x
      rw [← take_succ' ht hx] at hput
      have := ih (mputI s x (((fl.take t).count x : Int) + 1)) ⟨hput, by
       have : ∀ (o : Mp) (x y : Int), (mputI o x y).length ≤ o.length + 1 := fun o x y => by
        induction o with
        | nil => exact Nat.le_refl _
        | cons p r ih =>
         rw [mputI_cons]
         cases decide (x = p.1) with
         | true => simp
         | false => simp only [cond_false, List.length_cons]; omega
       have := this s x (((fl.take t).count x : Int) + 1)
       omega⟩
      simp only [l28a, ixA ht, ixB ht, cond_true, chk_true, Int.toNat_natCast, hx, ixW ht (by omega)]
      rw [show (mget (kt := .int .i64) (vt := .int .i64) s x).getD (0 : Int) = ((fl.take t).count x : Int) from hc, w64_small (by omega)]
      exact this
     ·obtain ⟨i1, i2⟩ := hI
      rw [List.take_length] at i1
      simp only [l28a, ixE, cond_false]
      refine rounds 20001 [] s (by omega) (by simp; omega) ?_
      rw [List.nil_append, ← srt_rise (glF_rise fl L.length c.2.1.length 0)]
      refine srt_congr ((List.perm_ext_iff_of_nodup ?_ ?_).2 fun i => ?_)
      ·exact List.Nodup.sublist (List.Sublist.map _ List.filter_sublist) i1.1
      ·exact (glF_rise fl L.length c.2.1.length 0).imp fun h e => by omega
      ·rw [glF_mem]
       simp only [flt, List.mem_map, List.mem_filter, dtq]
       constructor
       ·rintro ⟨⟨k, v⟩, ⟨hkv, hv⟩, rfl⟩
        obtain ⟨hk, hv2⟩ := (i1.2 k v).1 hkv
        simp only at hv ⊢
        exact ⟨hmem k hk, by omega⟩
       ·rintro ⟨h1, h2⟩
        have : i ∈ fl := List.count_pos_iff.1 (by omega)
        exact ⟨(i, (L.length : Int)), ⟨(i1.2 i _).2 ⟨this, by rw [h2]⟩, rfl⟩, rfl⟩
 ·cases h⟩
def nrF (w : List Int) (m : Int) : Nat → List (List Int) → List Int
 | _, [] => []
 | t, x :: r => cond (decide (ap x w = m)) ((t : Int) :: nrF w m (t + 1) r) (nrF w m (t + 1) r)
theorem minF_le : ∀ (l : List Int) (a : Int), minF a l ≤ a
 | [], a => Int.le_refl _
 | x :: r, a => by
  have := minF_le r (imin a x)
  have h2 : imin a x ≤ a := by unfold imin; split <;> omega
  show minF (imin a x) r ≤ a
  omega
theorem minF_mem : ∀ {l : List Int} {a : Int}, (∀ x ∈ l, x ≤ a) → l ≠ [] → ∃ x ∈ l, minF a l = x ∨ minF a l < x
 | [], _, _, h => absurd rfl h
 | x :: r, a, hl, _ => ⟨x, by simp, by
  have := minF_le r (imin a x)
  have h1 := hl x (by simp)
  have h2 : imin a x = x := by unfold imin; split <;> omega
  show minF (imin a x) r = x ∨ minF (imin a x) r < x
  omega⟩
theorem minF_cut {a b : Int} : ∀ {l : List Int}, (∀ x ∈ l, x ≤ a ∧ x ≤ b) → l ≠ [] → minF a l = minF b l
 | [], _, h => absurd rfl h
 | x :: r, hl, _ => by
  have := hl x (by simp)
  have e : imin a x = imin b x := by unfold imin; split <;> split <;> omega
  show minF (imin a x) r = minF (imin b x) r
  rw [e]
abbrev nrM (c : Cd) (w : List Int) : Int := minF 8 (c.2.1.map fun x => ap x w)
def nrV (c : Cd) (w : List Int) : List Int × Int := cond (decide (cwE c w = 0)) (nrF w (nrM c w) 0 c.2.1, 0) ([], cwE c w)
def B30 (c : Cd) (w : List Int) : Option (List Int × Int) := if smB c = true ∧ w.length ≤ 1000 then some (nrV c w) else none
theorem ap_le (a b : List Int) : 0 ≤ ap a b ∧ ap a b ≤ a.length := by
 have := apF_le b a 0 0
 unfold ap; omega
theorem nrF_len (w : List Int) (m : Int) : ∀ (l : List (List Int)) (t : Nat), (nrF w m t l).length ≤ l.length
 | [], t => Nat.le_refl _
 | x :: r, t => by
  have := nrF_len w m r (t + 1)
  rw [nrF]
  cases decide (ap x w = m) <;> simp <;> omega
theorem KB30 : FnOk Tryd.prog 30 (F30 B30) := ok30 B52 B53 B66 KB52 KB53 KB66 B30 fun c w r h => ⟨11, by
 simp only [B30] at h
 split at h
 ·rename_i hs
  rw [← h, m30, B66_of hs, Option.bind_some, nrV, bneDec]
  cases e : decide (cwE c w = 0) with
  | false => rfl
  | true =>
   have h0 := of_decide_eq_true e
   obtain ⟨hc, hw⟩ := cwE_ok h0
   obtain ⟨_, hn, hz, hlen, _⟩ := cdE_ok hc
   have hwl := (wE_ok hw hc).1
   simp only [Bool.not_true, cond_false, cond_true]
   rw [B52, if_pos hn.1, Option.bind_some, w64_small (by omega)]
   have hle : ∀ x ∈ c.2.1.map (fun x => ap x w), x ≤ (sz c : Int) := fun y hy => by
    obtain ⟨x, hx, rfl⟩ := List.mem_map.1 hy
    have := (ap_le x w).2
    rw [hlen x hx] at this; exact this
   have hne : c.2.1.map (fun x => ap x w) ≠ [] := fun h => by
    have := congrArg List.length h
    simp only [List.length_map, List.length_nil] at this; omega
   have hmin : minF ((sz c : Int) + 1) (c.2.1.map fun x => ap x w) = nrM c w := minF_cut (fun x hx => by have := hle x hx; omega) hne
   have hlt : nrM c w < (sz c : Int) + 1 := by
    obtain ⟨x, hx, h⟩ := minF_mem (a := 8) (fun x hx => by have := hle x hx; omega) hne
    have := hle x hx
    show minF 8 _ < _
    omega
   refine (rangeIx c.2.1 [] (fun n (s : Int × List Int) t => l30a B52 B53 B66 11 c w n s.1 t s.2) (fun t rest s => (∀ x ∈ rest, x.length = sz c) ∧ s.2.length ≤ t) (fun t xs s => some (cond (decide (minF s.1 (xs.map fun x => ap x w) < s.1)) (nrF w (minF s.1 (xs.map fun x => ap x w)) t xs) (s.2 ++ nrF w (minF s.1 (xs.map fun x => ap x w)) t xs), 0)) (fun n s t x rest ht hx hI ih => ?_)
    (fun n s _ => ?_) 11 ((sz c : Int) + 1, []) (by omega) ⟨hlen, Nat.le_refl _⟩).trans ?_
   ·obtain ⟨m, o⟩ := s
    obtain ⟨hr, ho⟩ := hI
    simp only at ho
    have hxl := hr x (by simp)
    have hr' : ∀ y ∈ rest, y.length = sz c := fun y hy => hr y (by simp [hy])
    have e53 : B53 x w = some (ap x w) := if_pos ⟨by omega, by omega⟩
    simp only [l30a, ixA ht, ixB ht, cond_true, chk_true, Int.toNat_natCast, hx, ixW ht (by omega), e53, Option.bind_some, beq_self_eq_true, List.map_cons]
    have hm1 : minF m (ap x w :: rest.map fun x => ap x w) = minF (imin m (ap x w)) (rest.map fun x => ap x w) := rfl
    rw [hm1]
    have i1 := ih (ap x w, [(t : Int)]) ⟨hr', by simp⟩
    have i2 := ih (m, o ++ [(t : Int)]) ⟨hr', by simp; omega⟩
    have i3 := ih (m, o) ⟨hr', by simp only; omega⟩
    simp only at i1 i2 i3
    rcases Int.lt_trichotomy (ap x w) m with hlt | heq | hgt
    ·have hi : imin m (ap x w) = ap x w := by unfold imin; split <;> omega
     rw [decide_eq_true hlt, cond_true, i1, hi]
     have hle := minF_le (rest.map fun x => ap x w) (ap x w)
     generalize minF (ap x w) (rest.map fun x => ap x w) = q at *
     rw [decide_eq_true (show q < m by omega), cond_true, nrF]
     by_cases h : ap x w = q
     ·rw [decide_eq_true h, decide_eq_false (show ¬ q < ap x w by omega)]; rfl
     ·rw [decide_eq_false h, decide_eq_true (show q < ap x w by omega)]; rfl
    ·have hi : imin m (ap x w) = m := by unfold imin; split <;> omega
     rw [decide_eq_false (show ¬ ap x w < m by omega), cond_false, beqDec, decide_eq_true heq, cond_true, chk_of (small_of (by omega) (by decide)), i2, hi]
     have hle := minF_le (rest.map fun x => ap x w) m
     generalize minF m (rest.map fun x => ap x w) = q at *
     rw [nrF]
     by_cases h : ap x w = q
     ·rw [decide_eq_true h, decide_eq_false (show ¬ q < m by omega)]; simp
     ·rw [decide_eq_false h, decide_eq_true (show q < m by omega)]; rfl
    ·have hi : imin m (ap x w) = m := by unfold imin; split <;> omega
     rw [decide_eq_false (show ¬ ap x w < m by omega), cond_false, beqDec, decide_eq_false (show ¬ ap x w = m by omega), cond_false, i3, hi]
     have hle := minF_le (rest.map fun x => ap x w) m
     generalize minF m (rest.map fun x => ap x w) = q at *
     rw [nrF, decide_eq_false (show ¬ ap x w = q by omega), cond_false]
   ·obtain ⟨m, o⟩ := s
    simp only [l30a, ixE, cond_false, List.map_nil, minF, List.foldl_nil, nrF, List.append_nil]
    rw [decide_eq_false (Int.lt_irrefl _), cond_false]
   ·simp only
    rw [hmin, decide_eq_true hlt, cond_true]
 ·cases h⟩
end Go.Proofs.YtbjfbbfglkmadaaDoor
