/-
  How a doubt is verified.
-/
import Derived.Test.YtbjfbbfglkmadaaDoorM7
namespace Go.Proofs.YtbjfbbfglkmadaaDoor
open Go.RowKit
set_option linter.unusedVariables false

def vE (c : Cd) (w : List Int) : List (List Int) → Option Int
  | [] => none
  | l :: r => cond (decide (coE c l = 0)) (cond (decide (2 < l.length)) (some 2) (cond (mk c l w) (vE c w r) (some 13))) (some (coE c l))
def cm (ls : List (List Int)) : Bool := (ls.getD 0 []).any fun x => ls.all fun l => decide (x ∈ l)
def vfO (c : Cd) (w : List Int) (ls all : List (List Int)) : Int := match vE c w ls with
  | some e => e
  | none => cond (cm all) 12 0
def vfV (c : Cd) (d : Db) : Int := cond (decide (cwE c d.1 = 0)) (cond (decide (d.2.1.length = 0)) 1 (cond (decide (10 < d.2.1.length)) 2 (vfO c d.1 d.2.1 d.2.1))) (cwE c d.1)
def okD (c : Cd) (d : Db) : Bool := smB c && decide (d.1.length ≤ 1000) && d.2.1.all fun l => decide (l.length ≤ 1000)
theorem okD_at {c : Cd} {d : Db} (h : okD c d = true) : smB c = true ∧ d.1.length ≤ 1000 ∧ ∀ l ∈ d.2.1, l.length ≤ 1000 := by
  simp only [okD, Bool.and_eq_true, decide_eq_true_eq, List.all_eq_true] at h; exact ⟨h.1.1, h.1.2, h.2⟩
def B38 (c : Cd) (d : Db) : Option Int := if okD c d = true then some (vfV c d) else none
theorem cnt_le : ∀ {l : List Int} (k : Int), l.Pairwise (· < ·) → l.count k ≤ 1
  | [], k, _ => by simp
  | x :: r, k, h => by
    obtain ⟨h1, h2⟩ := List.pairwise_cons.1 h
    rw [List.count_cons]
    by_cases e : x = k
    · have : r.count k = 0 := List.count_eq_zero.2 fun hk => by have := h1 k hk; omega
      rw [this]; split <;> omega
    · have := cnt_le (l := r) k h2
      rw [if_neg (by simpa using e)]; exact this
theorem cnt_all (k : Int) : ∀ {ls : List (List Int)}, (∀ l ∈ ls, l.Pairwise (· < ·)) → ls.flatten.count k ≤ ls.length ∧ (ls.flatten.count k = ls.length ↔ ∀ l ∈ ls, k ∈ l)
  | [], _ => by simp
  | x :: r, h => by
    obtain ⟨i1, i2⟩ := cnt_all k (ls := r) fun l hl => h l (by simp [hl])
    have hx := cnt_le k (h x (by simp))
    rw [List.flatten_cons, List.count_append, List.length_cons]
    refine ⟨by omega, ?_⟩
    constructor
    · intro e l hl
      rcases List.mem_cons.1 hl with rfl | hl
      · exact List.count_pos_iff.1 (by omega)
      · exact i2.1 (by omega) l hl
    · intro hall
      have h1 : 0 < x.count k := List.count_pos_iff.2 (hall x (by simp))
      have h2 := i2.2 fun l hl => hall l (by simp [hl])
      omega
theorem flat2 : ∀ {l : List (List Int)}, (∀ x ∈ l, x.length ≤ 2) → l.flatten.length ≤ 2 * l.length
  | [], _ => by simp
  | x :: r, h => by
    have := flat2 (l := r) fun y hy => h y (by simp [hy])
    have := h x (by simp)
    rw [List.flatten_cons, List.length_append, List.length_cons]; omega
theorem mputI_len (x y : Int) : ∀ (o : Mp), (mputI o x y).length ≤ o.length + 1
  | [] => Nat.le_refl _
  | p :: r => by
    have := mputI_len x y r
    rw [mputI_cons]
    cases decide (x = p.1) with
    | true => simp
    | false => simp only [cond_false, List.length_cons]; omega
theorem KB38 : FnOk Tryd.prog 38 (F38 B38) := ok38 B55 B59 B66 KB55 KB59 KB66 B38 fun c d r h => ⟨41, by
  simp only [B38] at h
  split at h
  · rename_i hs0
    obtain ⟨hs, hw, hls⟩ := okD_at hs0
    obtain rfl := Option.some.inj h
    rw [m38, B66_of ⟨hs, hw⟩, Option.bind_some, vfV, bneDec, lenEq0, show decide ((d.2.1.length : Int) > 10) = decide (10 < d.2.1.length) from lenGt _ 10]
    cases e : decide (cwE c d.1 = 0) with
    | false => simp [chk]
    | true =>
      have h0 := of_decide_eq_true e
      obtain ⟨hc, hwe⟩ := cwE_ok h0
      have hn := (cdE_ok hc).2.1
      simp only [Bool.not_true, cond_false, cond_true]
      cases e1 : decide (d.2.1.length = 0) with
      | true => simp [chk]
      | false =>
        have h1 := of_decide_eq_false e1
        cases e2 : decide (10 < d.2.1.length) with
        | true => simp [chk]
        | false =>
          have h2 := of_decide_eq_false e2
          simp only [cond_false]
          obtain ⟨w, ls, u⟩ := d
          cases u
          simp only at *
          -- the rounds over the map
          have rounds : ∀ (n : Nat) (o : Mp), o.length < n → l38c B55 B59 B66 (cond (o.any fun p => decide (p.2 = (ls.length : Int))) 12 0) 41 (w, ls, ()) n o = some () := by
            intro n
            induction n with
            | zero => intro o h; omega
            | succ n ih =>
              intro o hlen
              rw [l38c]
              refine eachK_of o (fun ho => ?_) fun u q v ho => ?_
              · subst ho; simp [chk]
              · have hl2 : o.length = u.length + v.length + 1 := by rw [ho]; simp; omega
                have hany : (o.any fun p => decide (p.2 = (ls.length : Int))) = (decide (q.2 = (ls.length : Int)) || (u ++ v).any fun p => decide (p.2 = (ls.length : Int))) := by
                  rw [ho]
                  simp only [List.any_append, List.any_cons]
                  cases decide (q.2 = (ls.length : Int)) <;> simp
                have hi := ih (u ++ v) (by simp; omega)
                simp only [beqLen]
                cases eq : decide (q.2 = (ls.length : Int)) with
                | true => rw [hany, eq]; simp [chk]
                | false => rw [hany, eq, cond_false, Bool.false_or]; exact hi
          refine rangeP ls [] (fun n s t => l38a B55 B59 B66 (vfO c w ls ls) 41 c (w, ls, ()) n t s) (fun t rest s => Cnt ((ls.take t).flatten) s ∧ s.length ≤ 2 * t ∧ (∀ l ∈ ls.take t, coE c l = 0 ∧ l.length ≤ 2) ∧ vE c w ls = vE c w rest) (fun r => r = some ())
            (fun n s t x rest ht hx hd hI ih => ?_) (fun n s hI => ?_) 41 [] (by omega) ⟨⟨List.nodup_nil, fun k v => by simp⟩, Nat.le_refl _, fun l hl => (by cases hl), rfl⟩
          · obtain ⟨i1, i2, i3, i4⟩ := hI
            have hxl := hls x (hx ▸ getD_mem ht)
            have e55 : B55 c x = some (coE c x) := if_pos ⟨hxl, by omega⟩
            rw [vE] at i4
            simp only [l38a, ixA ht, ixB ht, cond_true, chk_true, Int.toNat_natCast, hx, e55, Option.bind_some, bneDec]
            cases ec : decide (coE c x = 0) with
            | false =>
              rw [ec] at i4
              simp only [vfO, i4, Bool.not_false, cond_true, cond_false]
              simp [chk]
            | true =>
              have hco := of_decide_eq_true ec
              rw [ec] at i4
              simp only [Bool.not_true, cond_false, cond_true] at i4 ⊢
              rw [show decide ((x.length : Int) > 2) = decide (2 < x.length) from lenGt _ 2]
              cases e2' : decide (2 < x.length) with
              | true =>
                rw [e2'] at i4
                simp only [vfO, i4, cond_true]
                simp [chk]
              | false =>
                have hx2 := of_decide_eq_false e2'
                rw [e2', cond_false] at i4
                have e59 : B59 c x w = some (mk c x w) := if_pos (okC_of hc hco hwe hxl)
                simp only [cond_false, e59, Option.bind_some]
                cases em : mk c x w with
                | false =>
                  rw [em] at i4
                  simp only [vfO, i4, Bool.not_false, cond_true, cond_false]
                  simp [chk]
                | true =>
                  rw [em, cond_true] at i4
                  simp only [Bool.not_true, cond_false]
                  have htk := take_succ' ht hx
                  have hfl : ((ls.take (t + 1)).flatten) = (ls.take t).flatten ++ x := by rw [htk, List.flatten_append]; simp
                  have hpre : ((ls.take t).flatten).length ≤ 20 := by
                    have := flat2 (l := ls.take t) fun y hy => (i3 y hy).2
                    have h3 : (ls.take t).length ≤ 10 := by rw [List.length_take]; omega
                    omega
                  refine rangeP x 0 (fun n' s' t' => l38b B55 B59 B66 (vfO c w ls ls) 41 c (w, ls, ()) (t : Int) (fun y0 y1 => l38a B55 B59 B66 (vfO c w ls ls) 41 c (w, ls, ()) n y0 y1) n' t' s') (fun t' rest' s' => Cnt ((ls.take t).flatten ++ x.take t') s' ∧ s'.length ≤ 2 * t + t') (fun r => r = some ())
                    (fun n' s' t' y rest' ht' hy hd' hI' ih' => ?_) (fun n' s' hI' => ?_) 41 s (by omega) ⟨by rw [List.take_zero, List.append_nil]; exact i1, by omega⟩
                  · obtain ⟨j1, j2⟩ := hI'
                    have hcg := j1.get y
                    have hput := j1.put y
                    rw [List.append_assoc, ← take_succ' ht' hy] at hput
                    have hcl := List.count_le_length (a := y) (l := (ls.take t).flatten ++ x.take t')
                    rw [List.length_append, List.length_take] at hcl
                    have hl := mputI_len y ((((ls.take t).flatten ++ x.take t').count y : Int) + 1) s'
                    have := ih' _ ⟨hput, by omega⟩
                    simp only [l38b, Int.toNat_natCast, hx, ixA ht', ixB ht', cond_true, chk_true, hy, ixW ht' (by omega)]
                    rw [show (mget (kt := .int .i64) (vt := .int .i64) s' y).getD (0 : Int) = (((ls.take t).flatten ++ x.take t').count y : Int) from hcg, w64_small (by omega)]
                    exact this
                  · obtain ⟨j1, j2⟩ := hI'
                    rw [List.take_length] at j1
                    simp only [l38b, Int.toNat_natCast, hx, ixE, cond_false, ixW ht (by omega)]
                    refine ih s' ⟨by rw [hfl]; exact j1, by omega, fun l hl => ?_, i4⟩
                    rw [htk] at hl
                    rcases List.mem_append.1 hl with hl | hl
                    · exact i3 l hl
                    · rw [List.mem_singleton.1 hl]; exact ⟨hco, by omega⟩
          · obtain ⟨i1, i2, i3, i4⟩ := hI
            rw [List.take_length] at i1 i3
            simp only [l38a, ixE, cond_false]
            have hv : vfO c w ls ls = cond (s.any fun p => decide (p.2 = (ls.length : Int))) 12 0 := by
              rw [vfO, i4, vE]
              simp only
              congr 1
              have hr : ∀ l ∈ ls, l.Pairwise (· < ·) := fun l hl => (coE_ok (i3 l hl).1).2.2
              rw [Bool.eq_iff_iff, cm, List.any_eq_true, List.any_eq_true]
              constructor
              · rintro ⟨k, hk, hall⟩
                have hall : ∀ l ∈ ls, k ∈ l := by simpa using hall
                have hcn := (cnt_all k hr).2.2 hall
                have hkm : k ∈ ls.flatten := List.count_pos_iff.1 (by omega)
                exact ⟨(k, (ls.length : Int)), (i1.2 k _).2 ⟨hkm, by rw [hcn]⟩, decide_eq_true rfl⟩
              · rintro ⟨⟨k, v⟩, hkv, hv⟩
                obtain ⟨hk, hv2⟩ := (i1.2 k v).1 hkv
                have hv := of_decide_eq_true hv
                simp only at hv
                have hall := (cnt_all k hr).2.1 (by omega)
                exact ⟨k, hall _ (getD_mem (by omega)), by simpa using hall⟩
            rw [hv]
            exact rounds 41 s (by omega)
  · cases h⟩
end Go.Proofs.YtbjfbbfglkmadaaDoor
