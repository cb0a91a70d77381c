/-
  The guilty, where the copy is an own row that is lent.
-/
import Derived.Test.YtbjfbbfglkmadaaDoorM7
import Derived.Test.YtbjfbbfglkmadaaDoorQ28c
namespace Go.Proofs.YtbjfbbfglkmadaaDoor
open Go.RowKit
set_option linter.unusedVariables false

def B26c (c : Cd) (z : Int) (w : List Int) : Option (List (List Int) × Int × List Int) :=
  if smB c = true ∧ w.length ≤ 1000 then some (cond (decide (cwE c w = 0)) (cond (decide (1 ≤ z ∧ z ≤ 10)) (lnL c w z, 0, w) ([], 4, w)) ([], cwE c w, w)) else none
def B28c (c : Cd) (z : Int) (w : List Int) : Option (List Int × Int × List Int) := if smB c = true ∧ w.length ≤ 1000 then some ((guV c w z).1, (guV c w z).2, w) else none
theorem KB26c : FnOk Tryd.prog 26 (F26c B26c) := ok26c B62 B66 B67 B68 B70 KB62 KB66 KB67 KB68 KB70 B26c fun c z w r h => ⟨0, by
  simp only [B26c] at h
  split at h
  · rename_i hs
    rw [← h, m26c, B66_of hs, Option.bind_some, bneDec]
    cases e : decide (cwE c w = 0) with
    | false => rfl
    | true =>
      have h0 := of_decide_eq_true e
      have hn := (cdE_ok (cwE_ok h0).1).2.1
      simp only [Bool.not_true, cond_false, cond_true, B62, Option.bind_some]
      cases e2 : decide (1 ≤ z ∧ z ≤ 10) with
      | false => rfl
      | true =>
        have hz := of_decide_eq_true e2
        simp only [Bool.not_true, cond_false, cond_true, B67, Option.bind_some]
        rw [chk_dec (by omega), gr_co]
        have key : ∀ (l o : List (List Int)), (∀ x ∈ l, isCo c.2.1.length z.toNat x) → o.length + l.length ≤ 2000 → l26ca B62 B66 B67 B68 B70 0 c w (z, c) l o = some (o ++ l.filter (fun l => ln c l w), 0, w) := by
          intro l
          induction l with
          | nil => intro o _ _; simp [l26ca]
          | cons x r ih =>
            intro o hl ho
            have hx := hl x (by simp)
            have hxl := isCo_len hx
            have e70 : B70 c x w = some (ln c x w) := if_pos (okC_co h0 hx)
            simp only [List.length_cons] at ho
            rw [l26ca, e70, Option.bind_some, List.filter_cons]
            cases ln c x w with
            | false =>
              simp only [cond_false, Bool.false_eq_true, if_false]
              exact ih o (fun y hy => hl y (by simp [hy])) (by omega)
            | true =>
              have hpos : 0 < x.length := by
                have := hx.1
                cases x with
                | nil => exact absurd rfl this
                | cons _ _ => simp
              rw [cond_true, chk_of (by simp only [Bool.and_true, decide_eq_true_eq]; exact hpos)]
              simp only [B68, if_pos (show x.length ≤ 1000 by omega), Option.bind_some, if_true]
              rw [chk_of (small_of (by omega) (by decide)), ih (o ++ [x]) (fun y hy => hl y (by simp [hy])) (by simp; omega), List.append_assoc]
              rfl
        rw [key _ [] (fun x hx => co_mem.1 hx) (by have := co_len (k := z.toNat) hn.2; simp only [List.length_nil]; omega), List.nil_append]; rfl
  · cases h⟩
theorem KB28c : FnOk Tryd.prog 28 (F28c B28c) := ok28c B26c B73 A74 KB26c KB73 ok74 B28c fun c z w r h => ⟨20001, by
  simp only [B28c] at h
  split at h
  · rename_i hs
    obtain rfl := Option.some.inj h
    rw [m28c, B26c, if_pos hs, Option.bind_some, guV, bneDec, lenEq0]
    cases e : decide (cwE c w = 0) with
    | false =>
      have h0 := of_decide_eq_false e
      simp only [cond_false]
      rw [decide_eq_false h0]
      simp [chk]
    | true =>
      have h0 := of_decide_eq_true e
      have hn := (cdE_ok (cwE_ok h0).1).2.1
      simp only [cond_true]
      cases e2 : decide (1 ≤ z ∧ z ≤ 10) with
      | false => simp [chk]
      | true =>
        simp only [cond_true, decide_true, Bool.not_true, cond_false]
        cases e3 : decide ((lnL c w z).length = 0) with
        | true => simp [chk]
        | false =>
          have hL0 := of_decide_eq_false e3
          simp only [cond_false]
          have hx10 : ∀ x ∈ lnL c w z, x.length ≤ 10 := fun x hx => by have := isCo_len (lnL_mem hx); omega
          have hfl := flat_len hx10
          have hL := lnL_len (c := c) (w := w) (z := z) hn.2
          have hmem : ∀ i ∈ (lnL c w z).flatten, 0 ≤ i ∧ i < (c.2.1.length : Int) := fun i hi => by
            obtain ⟨x, hx, hix⟩ := List.mem_flatten.1 hi
            exact (lnL_mem hx).2.2.2 i hix
          have hgl : gl c w z = glF (lnL c w z).flatten (lnL c w z).length c.2.1.length 0 := rfl
          rw [hgl]
          generalize lnL c w z = L at *
          have e73 : B73 L = some L.flatten := B73_of hL hx10
          rw [e73, Option.bind_some]
          generalize hF : L.flatten = fl at *
          -- the rounds over the map
          have rounds : ∀ (n : Nat) (out : List Int) (o : Mp), o.length < n → out.length + o.length ≤ 20000 → srt (out ++ flt L.length o) = glF fl L.length c.2.1.length 0 →
              l28cb B26c B73 A74 (glF fl L.length c.2.1.length 0) 0 w 20001 (L, 0, w) n out o = some () := by
            intro n
            induction n with
            | zero => intro out o h; omega
            | succ n ih =>
              intro out o hlen hsum hsrt
              rw [l28cb]
              refine eachK_of o (fun ho => ?_) fun u q v ho => ?_
              · subst ho
                rw [show flt L.length [] = [] from rfl, List.append_nil] at hsrt
                simp only [List.length_nil] at hsum
                rw [A74, if_pos (by omega), Option.bind_some, hsrt]
                simp [chk]
              · have hl2 : o.length = u.length + v.length + 1 := by rw [ho]; simp; omega
                have hfq : flt L.length o = flt L.length u ++ (flt L.length [q] ++ flt L.length v) := by
                  rw [ho]
                  simp only [flt, List.filter_append, List.filter_cons, List.filter_nil, List.map_append]
                  cases decide (q.2 = (L.length : Int)) <;> simp
                have huv : flt L.length (u ++ v) = flt L.length u ++ flt L.length v := by simp only [flt, List.filter_append, List.map_append]
                simp only [beqLen]
                cases eq : decide (q.2 = (L.length : Int)) with
                | true =>
                  rw [cond_true, chk_of (small_of (by omega) (by decide))]
                  refine ih _ _ (by simp; omega) (by simp; omega) ?_
                  rw [← hsrt]
                  refine srt_congr ?_
                  rw [hfq, huv, show flt L.length [q] = [q.1] by simp only [flt, List.filter_cons, eq]; rfl]
                  rw [List.append_assoc]
                  refine List.Perm.append_left out ?_
                  rw [← List.append_assoc, ← List.append_assoc]
                  exact List.Perm.append_right _ List.perm_append_comm
                | false =>
                  rw [cond_false]
                  refine ih _ _ (by simp; omega) (by simp; omega) ?_
                  rw [← hsrt, hfq, huv, show flt L.length [q] = [] by simp only [flt, List.filter_cons, eq]; rfl, List.nil_append]
          refine rangeP fl 0 (fun n s t => l28ca B26c B73 A74 (glF fl L.length c.2.1.length 0) 0 w 20001 (L, 0, w) fl n t s) (fun t rest s => Cnt (fl.take t) s ∧ s.length ≤ t) (fun r => r = some ()) (fun n s t x rest ht hx hd hI ih => ?_) (fun n s hI => ?_) 20001 [] (by omega) ⟨⟨List.nodup_nil, fun k v => by simp⟩, Nat.le_refl _⟩
          · obtain ⟨i1, i2⟩ := hI
            have hc := i1.get x
            have hcl := List.count_le_length (a := x) (l := fl.take t)
            rw [List.length_take] at hcl
            have hput := i1.put x
            rw [← take_succ' ht hx] at hput
            have := ih (mputI s x (((fl.take t).count x : Int) + 1)) ⟨hput, by
              have : ∀ (o : Mp) (x y : Int), (mputI o x y).length ≤ o.length + 1 := fun o x y => by
                induction o with
                | nil => exact Nat.le_refl _
                | cons p r ih =>
                  rw [mputI_cons]
                  cases decide (x = p.1) with
                  | true => simp
                  | false => simp only [cond_false, List.length_cons]; omega
              have := this s x (((fl.take t).count x : Int) + 1)
              omega⟩
            simp only [l28ca, ixA ht, ixB ht, cond_true, chk_true, Int.toNat_natCast, hx, ixW ht (by omega)]
            rw [show (mget (kt := .int .i64) (vt := .int .i64) s x).getD (0 : Int) = ((fl.take t).count x : Int) from hc, w64_small (by omega)]
            exact this
          · obtain ⟨i1, i2⟩ := hI
            rw [List.take_length] at i1
            simp only [l28ca, ixE, cond_false]
            refine rounds 20001 [] s (by omega) (by simp; omega) ?_
            rw [List.nil_append, ← srt_rise (glF_rise fl L.length c.2.1.length 0)]
            refine srt_congr ((List.perm_ext_iff_of_nodup ?_ ?_).2 fun i => ?_)
            · exact List.Nodup.sublist (List.Sublist.map _ List.filter_sublist) i1.1
            · exact (glF_rise fl L.length c.2.1.length 0).imp fun h e => by omega
            · rw [glF_mem]
              simp only [flt, List.mem_map, List.mem_filter, decide_eq_true_eq]
              constructor
              · rintro ⟨⟨k, v⟩, ⟨hkv, hv⟩, rfl⟩
                obtain ⟨hk, hv2⟩ := (i1.2 k v).1 hkv
                simp only at hv ⊢
                exact ⟨hmem k hk, by omega⟩
              · rintro ⟨h1, h2⟩
                have : i ∈ fl := List.count_pos_iff.1 (by omega)
                exact ⟨(i, (L.length : Int)), ⟨(i1.2 i _).2 ⟨this, by rw [h2]⟩, rfl⟩, rfl⟩
  · cases h⟩
end Go.Proofs.YtbjfbbfglkmadaaDoor
