/-
  The least fines, fine by fine.
-/
import Derived.Test.YtbblnbolabpfmaaO1
import Derived.Test.YtbblnbolabpfmaaP11o
namespace Go.Proofs.Ytbblnbolabpfmaa
open Go.RowKit
set_option linter.unusedVariables false

/-- Orders of at least a fine that are on time. -/
def gm (l : List Od) (c : Int) : Nat := cnt (fun i => mem (greedy l []) i && ge l c i) l.length
/-- All of them. -/
def ga (l : List Od) (c : Int) : Nat := cnt (ge l c) l.length

theorem gm_le {l : List Od} (h : Ok6 l) (c : Int) (d : Nat) : gm l c ≤ rch l c d := count_le (greedy_gr h).2.pos c d
theorem gm_ex {l : List Od} (h : Ok6 l) (c : Int) : ∃ D, gm l c = rch l c D := (greedy_gr h).2.count c fun i _ => rfl
theorem gm_ga (l : List Od) (c : Int) : gm l c ≤ ga l c := cnt_le fun i _ hi => by simp only [Bool.and_eq_true] at hi; exact hi.2
theorem ga_n (l : List Od) (c : Int) : ga l c ≤ l.length := cnt_le_n _ _

/-- Fine by fine: the orders that no day has room for. -/
theorem leastO_lay {l : List Od} (h : Ok6 l) {M : Nat} (hM : ∀ o ∈ l, o.2.1 ≤ (M : Int)) : leastO l = (lay (fun c => ga l c - gm l c) M : Int) := by
  have hf : ∀ i, i < l.length → 0 ≤ fnl l i ∧ fnl l i ≤ M := fun i hi => ⟨(h.fn hi).1, by
    have := hM _ (List.getElem_mem hi)
    simpa [fnl, List.getD, List.getElem?_eq_getElem hi] using this⟩
  have hb := (greedy_best h).2
  have e1 : tot l = (lay (fun c => ga l c) M : Int) := by
    unfold tot
    rw [cake (M := M) fun i hi _ => hf i hi]
    have : ∀ c : Nat, cnt (fun i => true && decide ((c : Int) ≤ fnl l i)) l.length = ga l c := fun c => cnt_congr fun i _ => rfl
    simp only [this]
  have e2 : ws (fnl l) (mem (greedy l [])) l.length = (lay (fun c => gm l c) M : Int) := by
    rw [cake (M := M) fun i hi _ => hf i hi]; rfl
  have e3 := lay_add (fun c => ga l (c : Int) - gm l (c : Int)) (fun c => gm l (c : Int)) M
  have e4 : lay (fun c => ga l (c : Int) - gm l (c : Int) + gm l (c : Int)) M = lay (fun c => ga l (c : Int)) M := by
    refine Nat.le_antisymm (lay_le fun c _ _ => ?_) (lay_le fun c _ _ => ?_) <;> (have := gm_ga l c; omega)
  omega

/-! ### more days -/
theorem mov_len (l : List Od) (k : Int) : (mov l k).length = l.length := by simp [mov]
theorem mov_get {l : List Od} (k : Int) {i : Nat} (hi : i < l.length) : (mov l k).getD i d3 = ((l.getD i d3).1 + k, ((l.getD i d3).2.1, ())) := by
  simp [mov, List.getD, List.getElem?_eq_getElem hi]
theorem dyl_mov {l : List Od} (h : Ok6 l) (k : Nat) {i : Nat} (hi : i < l.length) : dyl (mov l k) i = dyl l i + k := by
  have h1 := (h.all _ (List.getElem_mem hi)).1
  have e : l.getD i d3 = l[i] := by simp [List.getD, List.getElem?_eq_getElem hi]
  rw [dyl, mov_get _ hi, dyl, e]
  show (l[i].1 + (k : Int)).toNat = _
  omega
theorem fnl_mov {l : List Od} (k : Int) {i : Nat} (hi : i < l.length) : fnl (mov l k) i = fnl l i := by rw [fnl, mov_get _ hi, fnl]
theorem ga_mov {l : List Od} (k : Int) (c : Int) : ga (mov l k) c = ga l c := by
  unfold ga
  rw [mov_len]
  exact cnt_congr fun i hi => by rw [ge, ge, fnl_mov k hi]

theorem rch_mov {l : List Od} (h : Ok6 l) (k : Nat) (c : Int) (e : Nat) : rch (mov l k) c (k + e) = k + rch l c e := by
  unfold rch aft
  rw [mov_len, Nat.add_assoc]
  congr 2
  exact cnt_congr fun i hi => by
    rw [ge, ge, fnl_mov _ hi, dyl_mov h k hi]
    by_cases q : dyl l i ≤ e
    · rw [decide_eq_true q, decide_eq_true (show dyl l i + k ≤ k + e by omega)]
    · rw [decide_eq_false q, decide_eq_false (show ¬ dyl l i + k ≤ k + e by omega)]
theorem rch_mov0 {l : List Od} (h : Ok6 l) (k : Nat) (c : Int) {d : Nat} (hd : d ≤ k) : rch (mov l k) c d = d + ga l c := by
  unfold rch aft ga
  rw [mov_len]
  congr 1
  exact cnt_congr fun i hi => by
    have := (h.dy hi).1
    rw [ge, ge, fnl_mov _ hi, dyl_mov h k hi, decide_eq_false (show ¬ dyl l i + k ≤ d by omega)]; simp

theorem gm_mov {l : List Od} (h : Ok6 l) {k : Nat} (h2 : Ok6 (mov l k)) (c : Int) : ga (mov l k) c - gm (mov l k) c = (ga l c - gm l c) - k := by
  rw [ga_mov]
  obtain ⟨D, hD⟩ := gm_ex h c
  obtain ⟨D', hD'⟩ := gm_ex h2 c
  have h3 := gm_le h2 c (k + D)
  rw [rch_mov h, ← hD] at h3
  have h4 := gm_le h2 c 0
  rw [rch_mov0 h k c (Nat.zero_le _)] at h4
  have h5 := gm_ga l c
  by_cases q : D' ≤ k
  · rw [rch_mov0 h k c q] at hD'; omega
  · obtain ⟨e, rfl⟩ : ∃ e, D' = k + e := ⟨D' - k, by omega⟩
    rw [rch_mov h] at hD'
    have := gm_le h c e
    omega

theorem leastO_mov {l : List Od} (h : Ok6 l) {k : Nat} (h2 : Ok6 (mov l k)) {M : Nat} (hM : ∀ o ∈ l, o.2.1 ≤ (M : Int)) : leastO (mov l k) = (lay (fun c => (ga l c - gm l c) - k) M : Int) := by
  rw [leastO_lay h2 (M := M) fun o ho => by obtain ⟨x, hx, rfl⟩ := List.mem_map.1 ho; exact hM x hx]
  simp only [gm_mov h h2]

end Go.Proofs.Ytbblnbolabpfmaa
