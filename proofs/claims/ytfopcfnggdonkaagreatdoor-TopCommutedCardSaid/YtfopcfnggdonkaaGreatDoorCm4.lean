/-
 Inks that commute: the plain law.
-/
import Derived.Test.YtfopcfnggdonkaaGreatDoorCm3
import Derived.Test.YtfopcfnggdonkaaGreatDoorWG
namespace Go.Proofs.YtfopcfnggdonkaaGreatDoor
open Go.Proofs.Tryz
open Go.RowKit
set_option linter.unusedVariables false
theorem anI : aC prog 13 (TT (some true)) := fun args o x h => by
 simp only [TT] at h
 split at h
 ·obtain rfl := Option.some.inj h; exact Zf [] [] _ akR
 ·cases h
def cm1 (p : dG) (x y c : Nat) : Bool := ((p.2.1.getD x []).getD ((p.2.1.getD y []).getD c 0).toNat 0) == ((p.2.1.getD y []).getD ((p.2.1.getD x []).getD c 0).toNat 0)
def cm (n : Nat) (p : dG) (x y : Nat) : Bool := (List.range' 0 n).all (cm1 p x y)
def wH (n : Nat) (p : dG) (x y j : Nat) : List (List Int) := ((List.range' y j).filter (cm n p x)).map fun (y : Nat) => [(x : Int), (y : Int)]
def uO (n : Nat) (p : dG) (x j : Nat) : List (List Int) := (List.range' x j).flatMap fun x => wH n p x 0 x
section
variable {n : Nat} {p : dG} (hp : AP n p) (h2 : 2 <= n) (h5 : n <= 5) {N : Nat} {bs sw : List Int}
include hp h2 h5
theorem ad9 {x c : Nat} (hx : x < p.2.1.length) (hc : c < n) : ∃ z : Nat, (p.2.1.getD x []).getD c 0 = (z : Int) /\ z < n /\ (p.2.1.getD x []).length = n := by
 have hk : lN n (p.2.1.getD x []) := by
  rw [List.getD_eq_getElem?_getD, List.getElem?_eq_getElem hx, Option.getD_some]
  exact hp.GI _ (List.getElem_mem hx)
 obtain ⟨a, b⟩ := ad8 hk hc
 exact ⟨((p.2.1.getD x []).getD c 0).toNat, by omega, by omega, hk.1⟩
theorem aa9 {x y : Nat} (hx : x < p.2.1.length) (hy : y < p.2.1.length) (o : List (List Int)) (ho : o.length <= 100) (rec : Int -> List (List Int) -> Option Bool) : ∀ (j c m : Nat) (s : Bool), c + j = n -> j < m ->
  GV uH (some true) A5 A6 A7 B8 B9 N bs sw p (x : Int) (y : Int) o rec m s (c : Int) = cond (s && (List.range' c j).all (cm1 p x y)) (rec ((y + 1 : Nat) : Int) (o ++ [[(x : Int), (y : Int)]])) (rec ((y + 1 : Nat) : Int) o)
 | 0, c, m, s, hc, hm => by
  obtain ⟨m, rfl⟩ : ∃ q, m = q + 1 := ⟨m - 1, by omega⟩
  have h4 := hp.i4
  simp only [GV, XQ, hp.c]
  rw [decide_eq_false (show ¬ (c : Int) < (n : Int) by omega), cond_false, AV (IV (by omega) (by decide)), nG (x := (y : Int) + 1) (by omega), show (y : Int) + 1 = ((y + 1 : Nat) : Int) by omega]
  simp
 | j + 1, c, m, s, hc, hm => by
  obtain ⟨m, rfl⟩ : ∃ q, m = q + 1 := ⟨m - 1, by omega⟩
  have h4 := hp.i4
  obtain ⟨zy, y1, y2, y3⟩ := ad9 hp h2 h5 hy (c := c) (by omega)
  obtain ⟨zx, x1, x2, x3⟩ := ad9 hp h2 h5 hx (c := c) (by omega)
  have ih := fun s => aa9 hx hy o ho rec j (c + 1) m s (by omega) (by omega)
  simp only [GV, XQ, hp.c, Int.toNat_natCast]
  rw [decide_eq_true (show (c : Int) < (n : Int) by omega), cond_true, nG (x := (c : Int) + 1) (by omega), show (c : Int) + 1 = ((c + 1 : Nat) : Int) by omega, List.range'_succ, List.all_cons]
  cases s with
  | false => rw [cond_false, ih]; rfl
  | true =>
   rw [cond_true, iU (show 0 <= (x : Int) /\ (x : Int) < (p.2.1.length : Int) by omega), iU (show 0 <= (y : Int) /\ (y : Int) < (p.2.1.length : Int) by omega),
    iU (show 0 <= (c : Int) /\ (c : Int) < ((p.2.1.getD y []).length : Int) by omega), iU (show 0 <= (p.2.1.getD y []).getD c 0 /\ (p.2.1.getD y []).getD c 0 < ((p.2.1.getD x []).length : Int) by omega),
    iU (show 0 <= (y : Int) /\ (y : Int) < (p.2.1.length : Int) by omega), iU (show 0 <= (x : Int) /\ (x : Int) < (p.2.1.length : Int) by omega),
    iU (show 0 <= (c : Int) /\ (c : Int) < ((p.2.1.getD x []).length : Int) by omega), iU (show 0 <= (p.2.1.getD x []).getD c 0 /\ (p.2.1.getD x []).getD c 0 < ((p.2.1.getD y []).length : Int) by omega), ih]
   rfl
theorem akV (hN : 5 < N) {x : Nat} (hx : x < p.2.1.length) (rec : Int -> List (List Int) -> Option Bool) : ∀ (j y m : Nat) (o : List (List Int)), y + j = x -> j < m -> o.length + j <= 100 ->
  D7 uH (some true) A5 A6 A7 B8 B9 N bs sw p (x : Int) rec m (y : Int) o = rec ((x + 1 : Nat) : Int) (o ++ wH n p x y j)
 | 0, y, m, o, hy, hm, ho => by
  obtain ⟨m, rfl⟩ : ∃ q, m = q + 1 := ⟨m - 1, by omega⟩
  have h4 := hp.i4
  simp only [D7]
  rw [decide_eq_false (show ¬ (y : Int) < (x : Int) by omega), cond_false, nG (x := (x : Int) + 1) (by omega), show (x : Int) + 1 = ((x + 1 : Nat) : Int) by omega]
  simp [wH]
 | j + 1, y, m, o, hy, hm, ho => by
  obtain ⟨m, rfl⟩ : ∃ q, m = q + 1 := ⟨m - 1, by omega⟩
  have ih := fun o ho => akV hN hx rec j (y + 1) m o (by omega) (by omega) ho
  simp only [D7]
  rw [decide_eq_true (show (y : Int) < (x : Int) by omega), cond_true]
  refine (aa9 hp h2 h5 hx (show y < p.2.1.length by omega) o (by omega) (fun y0 y1 => D7 uH (some true) A5 A6 A7 B8 B9 N bs sw p (x : Int) rec m y0 y1) n 0 N true (by omega) (by omega)).trans ?_
  rw [Bool.true_and]
  show cond (cm n p x y) _ _ = _
  unfold wH
  rw [List.range'_succ, List.filter_cons]
  cases hc : cm n p x y with
  | true =>
   rw [cond_true, if_pos rfl, ih _ (by simp; omega), List.map_cons, List.append_assoc]
   rfl
  | false =>
   rw [cond_false, if_neg (by simp), ih _ (by omega)]
   rfl
omit hp h2 h5 in
theorem aBY (x y j : Nat) : (wH n p x y j).length <= j := by
 unfold wH
 rw [List.length_map]
 exact Nat.le_trans (List.length_filter_le _ _) (by simp)
theorem akS (hN : 5 < N) : ∀ (j x m : Nat) (o : List (List Int)), x + j = p.2.1.length -> j < m -> o.length <= 20 * x -> ∃ m', m = j + 1 + m' /\
  BL uH (some true) A5 A6 A7 B8 B9 N bs sw p m (x : Int) o = BL uH (some true) A5 A6 A7 B8 B9 N bs sw p (1 + m') (p.2.1.length : Int) (o ++ uO n p x j)
 | 0, x, m, o, hx, hm, ho => by
  refine ⟨m - 1, by omega, ?_⟩
  rw [show 1 + (m - 1) = m by omega, show (x : Int) = (p.2.1.length : Int) by omega]
  simp [uO]
 | j + 1, x, m, o, hx, hm, ho => by
  obtain ⟨m, rfl⟩ : ∃ q, m = q + 1 := ⟨m - 1, by omega⟩
  have h4 := hp.i4
  have hl := aBY (n := n) (p := p) x 0 x
  obtain ⟨m', e1, e2⟩ := akS hN j (x + 1) m (o ++ wH n p x 0 x) (by omega) (by omega) (by simp; omega)
  refine ⟨m', by omega, ?_⟩
  simp only [BL]
  rw [decide_eq_true (show (x : Int) < (p.2.1.length : Int) by omega), cond_true]
  refine (akV hp h2 h5 hN (show x < p.2.1.length by omega) (fun y0 y1 => BL uH (some true) A5 A6 A7 B8 B9 N bs sw p m y0 y1) x 0 N o (by omega) (by omega) (by omega)).trans ?_
  refine e2.trans ?_
  unfold uO
  rw [List.range'_succ, List.flatMap_cons, List.append_assoc]
end
theorem azT (n : Nat) (p : dG) : ∀ K : Nat, 1 <= K -> K <= 4 -> iG ((K : Int), uO n p 0 K, ()) = 0 /\ (uO n p 0 K).length <= 100
 | 1, _, _ => ⟨rfl, by simp [uO, wH]⟩
 | 2, _, _ => by
  simp only [uO, wH, List.range'_succ, List.range'_zero, List.flatMap_cons, List.flatMap_nil, List.filter_cons, List.filter_nil]
  cases cm n p 1 0 <;> exact ⟨by rfl, by decide⟩
 | 3, _, _ => by
  simp only [uO, wH, List.range'_succ, List.range'_zero, List.flatMap_cons, List.flatMap_nil, List.filter_cons, List.filter_nil, Nat.zero_add, Nat.reduceAdd]
  cases cm n p 1 0 <;> cases cm n p 2 0 <;> cases cm n p 2 1 <;> exact ⟨by rfl, by decide⟩
 | 4, _, _ => by
  simp only [uO, wH, List.range'_succ, List.range'_zero, List.flatMap_cons, List.flatMap_nil, List.filter_cons, List.filter_nil, Nat.zero_add, Nat.reduceAdd]
  cases cm n p 1 0 <;> cases cm n p 2 0 <;> cases cm n p 2 1 <;> cases cm n p 3 0 <;> cases cm n p 3 1 <;> cases cm n p 3 2 <;> exact ⟨by rfl, by decide⟩
 | K + 5, _, h => absurd h (by omega)
theorem azC {n : Nat} {p : dG} {K : Nat} {f : List Int} (h : f ∈ uO n p 0 K) : ∃ x y : Nat, f = [(x : Int), (y : Int)] /\ cm n p x y = true := by
 unfold uO at h
 obtain ⟨x, _, hf⟩ := List.mem_flatMap.1 h
 unfold wH at hf
 obtain ⟨y, hy, rfl⟩ := List.mem_map.1 hf
 exact ⟨x, y, rfl, (List.mem_filter.1 hy).2⟩
theorem aqZ {n : Nat} {p : dG} {x y : Nat} (h : cm n p x y = true) : ET n (p.2.1.getD x []) (p.2.1.getD y []) := fun c hc => by
 unfold cm at h
 have := List.all_eq_true.1 h c (by simp; omega)
 exact beq_iff_eq.1 this
theorem atN {n : Nat} {p : dG} (hp : AP n p) (h2 : 2 <= n) (h5 : n <= 5) {K : Nat} : Wj p ((K : Int), uO n p 0 K, ()) := fun x y _ hD => by
 unfold Do nM at hD
 rw [Bool.not_eq_false', List.any_eq_true] at hD
 obtain ⟨f, hf, hh⟩ := hD
 obtain ⟨a, b, rfl, hc⟩ := azC hf
 have := aqZ hc
 rw [hp.c, Int.toNat_natCast]
 simp only [List.getD_cons_zero, List.getD_cons_succ, Bool.or_eq_true, Bool.and_eq_true, decide_eq_true_eq] at hh
 unfold GK nI
 rcases hh with ⟨e1, e2⟩ | ⟨e1, e2⟩
 ·rw [<- e1, <- e2, Int.toNat_natCast, Int.toNat_natCast]; exact this
 ·rw [<- e1, <- e2, Int.toNat_natCast, Int.toNat_natCast]; exact this.symm
theorem ao4 {c : Int} (hc : zW c) {jK : List (List Int)} (hi : MJ jK) {bs sw : List Int} (hb : zV bs) (hw : zV sw) : m3 uH (some true) A5 A6 A7 B8 B9 1001 c jK bs sw = some true := by
 obtain ⟨n, p, p1, h2, h5, hp⟩ := ak1 hc hi
 unfold m3
 rw [p1, Option.bind_some]
 have i1 := hp.i1
 have i4 := hp.i4
 obtain ⟨m', e1, e2⟩ := akS (N := 1001) (bs := bs) (sw := sw) hp h2 h5 (by decide) p.2.1.length 0 1001 [] (by omega) (by omega) (by simp)
 refine e2.trans ?_
 rw [List.nil_append, Nat.add_comm 1 m']
 obtain ⟨h0, auF⟩ := azT n p p.2.1.length i1 i4
 have hf := atN hp h2 h5 (K := p.2.1.length)
 generalize hO : (((p.2.1.length : Int), uO n p 0 p.2.1.length, ()) : Of) = O at h0 hf
 have KR : O.1 = (p.2.1.length : Int) := by rw [<- hO]
 have hO2 : O.2.1.length <= 100 := by rw [<- hO]; exact auF
 obtain ⟨a, a1, a2, a3⟩ := ak2 (K := p.2.1.length) (by omega) hb
 have ha : Ls O a := fun b hb' => by rw [KR]; exact a3 b hb'
 obtain ⟨b, b1, b2⟩ := ak3 h0 hO2 hw ha a2
 have hB := vJ h0
 have hbl : b.length <= 8 := by rw [<- b2.length hB]; exact a2
 have hbs : Ls O b := b2.Ls h0 ha
 have hE := azM h0 ha
 have hfl : (BR O a).length = a.length := hE.length hB
 have hfs : Ls O (BR O a) := hE.symm.Ls h0 ha
 have lk : ∀ {s : Wd}, Ls O s -> Lk p.2.1.length s := fun h b hb => by have := h b hb; rw [KR] at this; exact this
 have pa := Hm hp h2 h5 (lk ha) a2
 have pb := Hm hp h2 h5 (lk hbs) hbl
 have pf := Hm hp h2 h5 (lk hfs) (by omega)
 have sb := ahO (hp.ok h2 h5) h0 KR hf b2 ha
 have sf := ahO (hp.ok h2 h5) h0 KR hf hE.symm ha
 rw [<- sb.1, <- sb.2] at pb
 rw [<- sf.1, <- sf.2] at pf
 simp only [BL]
 rw [qL, cond_false, hO, a1, Option.bind_some, b1, Option.bind_some, ak7 h0 (by omega) ha, Option.bind_some, ak8 h0 (by omega) (by omega) ha hbs b2, Option.bind_some]
 have hne : (((BR O a).length : Int) != (a.length : Int)) = false := by rw [bne_eq_false_iff_eq]; omega
 simp only [bne_self_eq_false, Bool.not_true, cond_false, hne, pa, Option.bind_some]
 refine (show ∀ m : Nat, KZ uH (some true) A5 A6 A7 B8 B9 1001 b (BR O a, 0) (a.foldl (yT p) 0, powS (qI (a.foldl (wK p) 1)) 0, true, [p]) (m + 1 + 1 + 1) 0 [p] = some true from fun m => ?_) 998
 have w1 : aH (0 + 1) = 1 := by decide
 have w2 : aH (1 + 1) = 2 := by decide
 simp only [KZ, Jd, w1, w2, List.getD_cons_zero, Int.toNat_zero, Int.toNat_one, List.getD_cons_succ, pb, pf, Option.bind_some, Bool.not_true, cond_false, bne_self_eq_false, show decide ((0 : Int) < 2) = true from rfl, show decide ((1 : Int) < 2) = true from rfl, show decide ((2 : Int) < 2) = false from rfl, cond_true,
  iU (show 0 <= (0 : Int) /\ (0 : Int) < 2 by decide), iU (show 0 <= (1 : Int) /\ (1 : Int) < 2 by decide)]
open Classical in
noncomputable def C3 (c : Int) (jK : List (List Int)) (bs sw : List Int) : Option Bool := if zW c /\ MJ jK /\ zV bs /\ zV sw then some true else none
theorem KC3 : aC prog 3 (F3 C3) := ok3 uH (some true) A5 A6 A7 B8 B9 aoH anI KA5 KA6 KA7 kb8 kb9 C3 fun c jK bs sw r h => ⟨1001, by
 simp only [C3] at h
 split at h
 ·rename_i hu
  rw [<- h]; exact ao4 hu.1 hu.2.1 hu.2.2.1 hu.2.2.2
 ·cases h⟩
end Go.Proofs.YtfopcfnggdonkaaGreatDoor
