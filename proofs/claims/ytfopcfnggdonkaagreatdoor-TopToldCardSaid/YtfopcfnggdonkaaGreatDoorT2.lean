/-
 What weighings show is a code of three marks: the loops over the cases.
-/
import Derived.Test.YtfopcfnggdonkaaGreatDoorT1
import Derived.Test.YtfopcfnggdonkaaGreatDoorTLM
namespace Go.Proofs.YtfopcfnggdonkaaGreatDoor
open Go.RowKit
set_option linter.unusedVariables false
set_option linter.unusedSectionVars false
def DI (l : List Int) : List Int := l.map fun x => x + 1
theorem aG7 (l : List Int) : (DI l).length = l.length := by simp [DI]
theorem Zl {a b : List Int} : DI a = DI b ↔ a = b := by
 constructor
 ·intro h
  exact List.map_inj_right (fun x y h => by omega) |>.1 h
 ·rintro rfl; rfl
structure XT (q : Nat) (P : List Wg) : Prop where
 OU : q = 3 \/ q = 4
 err : qE (q : Int) P = 0
 fr : fair P
 pos : 1 <= P.length
theorem aq5 (a : List Int) : DT.beq (.arr 2 (.int .i64)) a a = true := by simp [DT.beq]
theorem asI : ∀ q : Nat, q < 5 -> 3 <= q -> ∀ c ∈ cs (q : Int), (0 <= c.getD 0 0 /\ c.getD 0 0 <= (q : Int) - 1) /\ -1 <= c.getD 1 0 /\ c.getD 1 0 <= 1 := by decide +kernel
section
variable {q : Nat} {P : List Wg} (hp : XT q P) {st which : Int} (hst : aB (3 + Int.tmod (aB st) 2) = (q : Int)) {w : Nat} (hw : Int.tmod (aB which) ((cs (q : Int)).length : Int) = (w : Int)) (hwl : w < (cs (q : Int)).length)
include hp
theorem XT.le : P.length <= 3 := (GU hp.err).2.1
theorem jT : (cs (q : Int)).length = 2 * q + 1 := by rw [SH]; simp
theorem I5 : 7 <= (cs (q : Int)).length /\ (cs (q : Int)).length <= 9 := by
 have := jT hp
 rcases hp.OU with h | h <;> omega
theorem acU {c : List Int} (hc : c ∈ cs (q : Int)) : (0 <= c.getD 0 0 /\ c.getD 0 0 <= (q : Int) - 1) /\ -1 <= c.getD 1 0 /\ c.getD 1 0 <= 1 := asI q (by rcases hp.OU with h | h <;> omega) (by rcases hp.OU with h | h <;> omega) c hc
theorem aDO {c : List Int} (hc : c ∈ cs (q : Int)) : lV (q : Int) P (c.getD 0 0) (c.getD 1 0) = some (kD P c, 0) := by
 obtain ⟨h1, h2⟩ := acU hp hc
 rw [lV, if_pos hp.fr, Za, hp.err, decide_eq_true h1, decide_eq_true h2]; rfl
theorem Jz {c : List Int} (hc : c ∈ cs (q : Int)) : ∀ x ∈ kD P c, -1 <= x /\ x <= 1 := fun x hx => by
 obtain ⟨v, _, rfl⟩ := List.mem_map.1 hx
 have := (acU hp hc).2
 unfold O0
 cases v.2.1.contains (c.getD 0 0) <;> cases v.1.contains (c.getD 0 0) <;> simp only [cond_true, cond_false] <;> omega
theorem aeG {r1 : List Int × Int} (hr : r1.1.length <= 3) (hx : ∀ x ∈ r1.1, -1 <= x /\ x <= 1) {C o : List (List Int)} (t : Nat) (ht : t < 100) (ho : o.length <= 100) (sh : List Int) (rec : List Int -> Int -> List (List Int) -> Option Bool) :
  EI lV lC l7 l9 lK lW (some true) 1001 st which P C (t : Int) o r1 rec 1001 sh 0 [] = rec sh ((t + 1 : Nat) : Int) (o ++ [DI r1.1]) := by
 have main := U2 r1.1 0 (fun n word k => EI lV lC l7 l9 lK lW (some true) 1001 st which P C (t : Int) o r1 rec n sh k word) (fun xs word => word.length + xs.length <= 3 /\ ∀ x ∈ xs, -1 <= x /\ x <= 1)
  (fun xs word => rec sh ((t + 1 : Nat) : Int) (o ++ [word ++ DI xs]))
  (fun n word k x rest hk hx hI ih => by
   obtain ⟨h1, h2⟩ := hI
   simp only [List.length_cons] at h1
   have hb := h2 x (by simp)
   simp only [EI, mM hk, lZ hk, cond_true, kV, Int.toNat_natCast, nV hk (by omega), hx]
   rw [wJ (ET (by omega) (by decide)), oH (x := x + 1) (by omega), ih _ ⟨by simp; omega, fun y hy => h2 y (by simp [hy])⟩]
   simp [DI])
  (fun n word hI => by
   simp only [EI, nM, cond_false]
   rw [wJ (ET (by omega) (by decide)), PG (by omega)]
   simp [DI]) 1001 [] (by omega) ⟨by simpa using hr, hx⟩
 simpa using main
abbrev gW (P : List Wg) (c : List Int) : List Int := DI (kD P c)
theorem FT (c : List Int) : (gW P c).length = P.length := by rw [aG7, KA]
abbrev cW (q : Nat) (P : List Wg) : Cd := (3, (cs (q : Int)).map (gW P), ())
theorem Om : sz (cW q P) = P.length := by
 have := (I5 hp).1
 unfold sz
 rw [List.getD_eq_getElem?_getD, List.getElem?_map, List.getElem?_eq_getElem (show 0 < (cs (q : Int)).length by omega)]
 exact FT hp _
theorem Ak : lI (cW q P) = 0 := by
 have h1 := I5 hp
 have h2 := hp.pos
 have h3 := hp.le
 unfold lI
 have e5 : ((cW q P).2.1.any fun w => !decide (w.length = sz (cW q P))) = false := List.any_eq_false.2 fun w hw => by
  obtain ⟨c, _, rfl⟩ := List.mem_map.1 hw
  simp [FT hp, Om hp]
 have e6 : ((cW q P).2.1.any fun w => w.any (qC (cW q P).1)) = false := List.any_eq_false.2 fun w hw => by
  obtain ⟨c, hc, rfl⟩ := List.mem_map.1 hw
  rw [Bool.not_eq_true]
  refine List.any_eq_false.2 fun m hm => ?_
  obtain ⟨x, hx, rfl⟩ := List.mem_map.1 hm
  have := Jz hp hc x hx
  simp only [qC, Bool.not_eq_true, Bool.not_eq_false', decide_eq_true_eq]
  rw [oH (by omega)]; omega
 rw [e5, e6, Om hp, decide_eq_true (show (2 : Int) <= (3 : Int) /\ (3 : Int) <= 4 by decide), decide_eq_false (show ¬ ((cs (q : Int)).map (gW P)).length = 0 by simp only [List.length_map]; omega),
  decide_eq_false (show ¬ 10 < ((cs (q : Int)).map (gW P)).length by simp only [List.length_map]; omega), decide_eq_true (show 1 <= P.length /\ P.length <= 8 by omega)]
 rfl
theorem Am : DC (cW q P) = true := by
 have h1 := I5 hp
 have h3 := hp.le
 simp only [DC, Bool.and_eq_true, decide_eq_true_eq, List.all_eq_true, List.length_map]
 refine ⟨by omega, fun w hw => ?_⟩
 obtain ⟨c, _, rfl⟩ := List.mem_map.1 hw
 rw [FT hp]; omega
theorem acT : ∀ w ∈ (cW q P).2.1, w.length = P.length := fun w hw => by
 obtain ⟨c, _, rfl⟩ := List.mem_map.1 hw
 exact FT hp c
theorem ag0 : ((cs (q : Int)).map (gW P)).Nodup ↔ ((cs (q : Int)).map (kD P)).Nodup := by
 unfold List.Nodup
 rw [List.pairwise_map, List.pairwise_map]
 constructor <;> exact fun h => h.imp fun h' h2 => h' (by first | exact Zl.2 h2 | exact Zl.1 h2)
theorem asW : ∃ d : Int, lC (cW q P) = some (d, 0) /\ decide (d > 0) = decide ((cs (q : Int)).map (kD P)).Nodup := by
 have h1 := I5 hp
 refine ⟨_, ?_, (asX (acT hp) (sz (cW q P) : Int) (by rw [Om hp]; have := hp.pos; omega)).trans (decide_eq_decide.2 (ag0 hp))⟩
 rw [lC, if_pos (Am hp), decide_eq_true (Ak hp), decide_eq_false (show ¬ (cW q P).2.1.length = 1 by simp only [List.length_map]; omega)]
 rfl
theorem aG5 : ∃ t, l7 (q : Int) P = some t /\ (t.2.2 == 14) = decide ((cs (q : Int)).map (kD P)).Nodup := by
 refine ⟨_, if_pos hp.fr, ?_⟩
 rw [Zk, hp.err]
 exact al1 (kD P) _
theorem au6 : ∃ t, l9 (cW q P) 1 = some t /\ (t.2.2 == 5) = decide ((cs (q : Int)).map (kD P)).Nodup := by
 refine ⟨_, if_pos (Am hp), ?_⟩
 rw [decide_eq_true (Ak hp), decide_eq_true (show (1 : Int) <= 1 /\ (1 : Int) <= 10 by decide), cond_true, cond_true, au5 (acT hp)]
 exact decide_eq_decide.2 (ag0 hp)
theorem az' {c : List Int} (hc : c ∈ cs (q : Int)) : ∃ l, lK (cW q P) (gW P c) = some (l, 0) /\ (∀ k ∈ l, 0 <= k /\ k < ((cs (q : Int)).length : Int)) /\ lW (q : Int) P (kD P c) = some (l.map (fun k => (cs (q : Int)).getD k.toNat [0, 0]), 0) := by
 have h3 := hp.le
 have hmem : gW P c ∈ (cW q P).2.1 := List.mem_map_of_mem hc
 have h0 : zA (cW q P) (gW P c) = 0 := by rw [zA, decide_eq_true (Ak hp), cond_true]; exact al8 (Ak hp) hmem
 have hz : UU (cW q P) (gW P c) = 0 := agV _ _ (by decide) (fun x hx => by
  obtain ⟨y, _, rfl⟩ := List.mem_map.1 hx; exact (Ob _ _).1) (by
  rw [List.mem_map]; exact ⟨_, hmem, (Oc rfl).2 rfl⟩)
 have nf := aiD (f := kD P) (g := gW P) (sh := kD P c) (w := gW P c) (m := 0) (cs (q : Int)) (cs (q : Int)) 0 rfl (fun x _ => by rw [FT hp, FT hp]) (fun x _ => Zl)
 refine ⟨tX (gW P c) 0 0 ((cs (q : Int)).map (gW P)), ?_, nf.1, ?_⟩
 ·rw [lK, if_pos ⟨Am hp, by rw [FT hp]; omega⟩, UW, decide_eq_true h0, cond_true, hz]
 ·rw [lW, if_pos ⟨hp.fr, by rw [KA]; omega⟩, Va, hp.err, nf.2, KA, Uz]
  have hb : (kD P c).any y7 = false := List.any_eq_false.2 fun x hx => by
   have := Jz hp hc x hx
   simp [y7, this]
  rw [hb]; simp
theorem auR {r5 : List Int × Int} {r6 : List (List Int) × Int} (hl : r5.1.length <= 1000) (h5 : ∀ k ∈ r5.1, 0 <= k /\ k < ((cs (q : Int)).length : Int)) (h6 : r6.1 = r5.1.map fun k => (cs (q : Int)).getD k.toNat [0, 0]) :
  EJ lV lC l7 l9 lK lW (some true) 1001 (cs (q : Int)) r5 r6 1001 0 = some true := by
 have h6l : r6.1.length = r5.1.length := by rw [h6, List.length_map]
 exact wZ r5.1 0 (fun n (_ : Unit) t => EJ lV lC l7 l9 lK lW (some true) 1001 (cs (q : Int)) r5 r6 n t) (fun _ xs _ => ∀ x ∈ xs, x ∈ r5.1) (fun _ _ _ => some true)
  (fun n _ t x rest ht hx hI ih => by
   obtain ⟨k0, k1⟩ := h5 x (hI x (by simp))
   have e6 : r6.1.getD t [0, 0] = (cs (q : Int)).getD x.toNat [0, 0] := by
    rw [h6, List.getD_eq_getElem?_getD, List.getElem?_map, List.getElem?_eq_getElem ht]
    rw [List.getD_eq_getElem?_getD, List.getElem?_eq_getElem ht] at hx
    rw [<- hx]; rfl
   simp only [EJ, mM ht, lZ ht, cond_true, kV, Int.toNat_natCast, hx, nV ht (by omega)]
   rw [decide_eq_false (show ¬ x < 0 by omega), cond_false, decide_eq_false (show ¬ x >= ((cs (q : Int)).length : Int) by omega), cond_false, pW ⟨k0, k1⟩, lZ (by omega : t < r6.1.length), kV, e6, aq5]
   exact ih () fun y hy => hI y (by simp [hy]))
  (fun n _ _ => by simp only [EJ, nM, cond_false]; rfl) 1001 () (by omega) fun x hx => hx
include hst hw hwl
theorem asO (m : Nat) : EH lV lC l7 l9 lK lW (some true) 1001 st which P (cs (q : Int)) (m + 1) (kD P ((cs (q : Int)).getD w [0, 0])) ((cs (q : Int)).length : Int) ((cs (q : Int)).map (gW P)) = some true := by
 have h1 := I5 hp
 have hcm : (cs (q : Int)).getD w [0, 0] ∈ cs (q : Int) := getD_mem hwl
 obtain ⟨d, d1, d2⟩ := asW hp
 obtain ⟨t, t1, t2⟩ := aG5 hp
 obtain ⟨f, f1, f2⟩ := au6 hp
 obtain ⟨l, l1, l2, l3⟩ := az' hp hcm
 have hgw : ((cs (q : Int)).map (gW P)).getD w [] = gW P ((cs (q : Int)).getD w [0, 0]) := by
  rw [List.getD_eq_getElem?_getD, List.getElem?_map, List.getD_eq_getElem?_getD, List.getElem?_eq_getElem hwl]; rfl
 have hll : l.length <= 1000 := by
  have e := Option.some.inj ((show lK (cW q P) (gW P ((cs (q : Int)).getD w [0, 0])) = some (UW (cW q P) (gW P ((cs (q : Int)).getD w [0, 0]))) from if_pos ⟨Am hp, by rw [FT hp]; have := hp.le; omega⟩).symm.trans l1)
  unfold UW at e
  cases hc : decide (zA (cW q P) (gW P ((cs (q : Int)).getD w [0, 0])) = 0) with
  | true =>
   rw [hc, cond_true] at e
   have := aiC (gW P ((cs (q : Int)).getD w [0, 0])) (UU (cW q P) (gW P ((cs (q : Int)).getD w [0, 0]))) (cW q P).2.1 0
   rw [(Prod.mk.inj e).1, List.length_map] at this
   omega
  | false => rw [hc, cond_false] at e; rw [<- (Prod.mk.inj e).1]; exact Nat.zero_le _
 have fl := auR hp (r5 := (l, 0)) (r6 := (l.map (fun k => (cs (q : Int)).getD k.toNat [0, 0]), 0)) hll l2 rfl
 have hl' : (l.map (fun k => (cs (q : Int)).getD k.toNat [0, 0])).length = l.length := List.length_map ..
 generalize (l.map (fun k => (cs (q : Int)).getD k.toNat [0, 0])) = l' at l3 fl hl'
 simp only [EH]
 rw [nM, cond_false, d1, Option.bind_some, hst, t1, Option.bind_some, f1, Option.bind_some]
 generalize hF : EJ lV lC l7 l9 lK lW (some true) 1001 (cs (q : Int)) (l, 0) (l', 0) 1001 0 = R at fl
 have z1 : ((d, (0 : Int)).2 != 0) = false := rfl
 rw [z1, cond_false]
 have z2 : ((decide ((d, (0 : Int)).1 > 0)) != (t.2.2 == 14)) = false := by
  show ((decide (d > 0)) != (t.2.2 == 14)) = false
  rw [d2, t2, bne_self_eq_false]
 have z3 : ((decide ((d, (0 : Int)).1 > 0)) != (f.2.2 == 5)) = false := by
  show ((decide (d > 0)) != (f.2.2 == 5)) = false
  rw [d2, f2, bne_self_eq_false]
 rw [z2, cond_false, z3, cond_false, pW (show ((cs (q : Int)).length : Int) ≠ 0 by omega), hw, Int.toNat_natCast, hgw, pW (show 0 <= (w : Int) /\ (w : Int) < (((cs (q : Int)).map (gW P)).length : Int) by rw [List.length_map]; omega), l1, Option.bind_some, l3, Option.bind_some]
 have z4 : ((((l, (0 : Int)).1.length : Nat) : Int) != (((l', (0 : Int)).1.length : Nat) : Int)) = false := by
  show ((l.length : Int) != (l'.length : Int)) = false
  rw [hl', bne_self_eq_false]
 rw [show ((l, (0 : Int)).2 != 0) = false from rfl, cond_false, cond_false, z4, cond_false, hF]
 exact fl
theorem adB : ∀ (m t n : Nat), t + m = (cs (q : Int)).length -> m < n -> n <= 1001 ->
  EH lV lC l7 l9 lK lW (some true) 1001 st which P (cs (q : Int)) n (if t <= w then [] else kD P ((cs (q : Int)).getD w [0, 0])) (t : Int) (((cs (q : Int)).take t).map (gW P)) = some true
 | 0, t, n, ht, hn, _ => by
  obtain ⟨n, rfl⟩ : ∃ k, n = k + 1 := ⟨n - 1, by omega⟩
  obtain rfl : t = (cs (q : Int)).length := by omega
  rw [if_neg (by omega), List.take_length]
  exact asO hp hst hw hwl n
 | m + 1, t, n, ht, hn, hn2 => by
  obtain ⟨n, rfl⟩ : ∃ k, n = k + 1 := ⟨n - 1, by omega⟩
  have h1 := I5 hp
  have h3 := hp.le
  have htl : t < (cs (q : Int)).length := by omega
  have hcm : (cs (q : Int)).getD t [0, 0] ∈ cs (q : Int) := getD_mem htl
  have ih := adB m (t + 1) n (by omega) (by omega) (by omega)
  have tk : ((cs (q : Int)).take (t + 1)).map (gW P) = ((cs (q : Int)).take t).map (gW P) ++ [DI (kD P ((cs (q : Int)).getD t [0, 0]))] := by
   rw [take_succ' htl rfl, List.map_append]; rfl
  rw [tk] at ih
  have hlen : (((cs (q : Int)).take t).map (gW P)).length <= 100 := by simp; omega
  have hrl : (kD P ((cs (q : Int)).getD t [0, 0])).length <= 3 := by rw [KA]; exact h3
  simp only [EH]
  rw [mM htl, cond_true, lZ htl, kV, Int.toNat_natCast, hst, aDO hp hcm, Option.bind_some]
  simp only [bne_self_eq_false, cond_false, KA]
  rw [pW (by omega), hw]
  by_cases e : t = w
  ·subst e
   rw [show ((t : Int) == (t : Int)) = true from beq_self_eq_true _, cond_true, aeG hp (r1 := (kD P ((cs (q : Int)).getD t [0, 0]), 0)) hrl (Jz hp hcm) t (by omega) hlen]
   rw [if_neg (by omega)] at ih
   exact ih
  ·rw [show ((t : Int) == (w : Int)) = false from beq_false_of_ne (by omega), cond_false, aeG hp (r1 := (kD P ((cs (q : Int)).getD t [0, 0]), 0)) hrl (Jz hp hcm) t (by omega) hlen]
   rw [show (if t <= w then ([] : List Int) else kD P ((cs (q : Int)).getD w [0, 0])) = (if t + 1 <= w then [] else kD P ((cs (q : Int)).getD w [0, 0])) by
    by_cases h : t <= w
    ·rw [if_pos h, if_pos (by omega)]
    ·rw [if_neg h, if_neg (by omega)]]
   exact ih
def OX (s : Nat) : Nat -> List (List Int)
 | 0 => []
 | j + 1 => [(s : Int), 1] :: [(s : Int), -1] :: OX (s + 1) j
theorem acV : ∀ (j s m : Nat) (C : List (List Int)), s + j = q -> j < m -> C.length <= 2 * s + 1 -> C ++ OX s j = cs (q : Int) -> wS lV lC l7 l9 lK lW (some true) 1001 st which m P (s : Int) C = some true
 | 0, s, m, C, hs, hm, hC, he => by
  obtain ⟨m, rfl⟩ : ∃ k, m = k + 1 := ⟨m - 1, by omega⟩
  simp only [wS]
  rw [hst, decide_eq_false (by omega), cond_false]
  rw [OX, List.append_nil] at he
  have := adB hp hst hw hwl (cs (q : Int)).length 0 1001 (by omega) (by have := I5 hp; omega) (by omega)
  rw [if_pos (Nat.zero_le _), List.take_zero] at this
  rw [he]; exact this
 | j + 1, s, m, C, hs, hm, hC, he => by
  obtain ⟨m, rfl⟩ : ∃ k, m = k + 1 := ⟨m - 1, by omega⟩
  have hq := hp.OU
  simp only [wS]
  rw [hst, decide_eq_true (by omega), cond_true, wJ (ET (by omega) (by decide)), PG (by omega)]
  exact acV j (s + 1) m _ (by omega) (by omega) (by simp; omega) (by rw [<- he, OX]; simp)
end
theorem cs3 : ([[0, 0]] : List (List Int)) ++ OX 0 3 = cs ((3 : Nat) : Int) := by decide +kernel
theorem cs4 : ([[0, 0]] : List (List Int)) ++ OX 0 4 = cs ((4 : Nat) : Int) := by decide +kernel
theorem alM {q : Nat} {P : List Wg} (hp : XT q P) {st which : Int} (hst : aB (3 + Int.tmod (aB st) 2) = (q : Int)) {w : Nat} (hw : Int.tmod (aB which) ((cs (q : Int)).length : Int) = (w : Int)) (hwl : w < (cs (q : Int)).length) :
  wS lV lC l7 l9 lK lW (some true) 1001 st which 1001 P 0 [[0, 0]] = some true :=
 acV hp hst hw hwl q 0 1001 [[0, 0]] (by omega) (by rcases hp.OU with h | h <;> omega) (by simp) (by rcases hp.OU with rfl | rfl; exact cs3; exact cs4)
end Go.Proofs.YtfopcfnggdonkaaGreatDoor
