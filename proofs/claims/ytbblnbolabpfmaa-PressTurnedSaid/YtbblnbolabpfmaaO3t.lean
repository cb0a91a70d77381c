/-
  The least fines, fine by fine.
-/
import Derived.Test.YtbblnbolabpfmaaO1
namespace Go.Proofs.Ytbblnbolabpfmaa
open Go.RowKit
set_option linter.unusedVariables false

theorem leastO_rng {l : List Od} (h : Ok6 l) : 0 ≤ leastO l ∧ leastO l ≤ 120000 := by
  obtain ⟨o1, T, o2, o3⟩ := leastO_ok h
  have hlen := h.len
  have h1 : 0 ≤ fim l 0 ∧ fim l 0 ≤ 10000 * l.length := ws_rng fun i hi => h.fn hi
  have h2 := o1 _ (Pos.empty (dy := dyl l) (n := l.length))
  have h3 : ws (fnl l) (fun i => !T i) l.length = tot l - ws (fnl l) T l.length := by
    have h := ws_split (fnl l) (fun _ => true) T l.length
    simp only [Bool.true_and] at h
    have e : ws (fnl l) (fun i => T i) l.length = ws (fnl l) T l.length := rfl
    unfold tot; omega
  have h4 : 0 ≤ ws (fnl l) (fun i => !T i) l.length ∧ ws (fnl l) (fun i => !T i) l.length ≤ 10000 * l.length := ws_rng fun i hi => h.fn hi
  omega


/-- Orders of at least a fine. -/
def ge (l : List Od) (c : Int) (i : Nat) : Bool := decide (c ≤ fnl l i)
def rch (l : List Od) (c : Int) (d : Nat) : Nat := d + aft (dyl l) l.length (ge l c) d

/-- Orders of at least a fine that are on time. -/
def gm (l : List Od) (c : Int) : Nat := cnt (fun i => mem (greedy l []) i && ge l c i) l.length
/-- All of them. -/
def ga (l : List Od) (c : Int) : Nat := cnt (ge l c) l.length

theorem gm_le {l : List Od} (h : Ok6 l) (c : Int) (d : Nat) : gm l c ≤ rch l c d := count_le (greedy_gr h).2.pos c d
theorem gm_ex {l : List Od} (h : Ok6 l) (c : Int) : ∃ D, gm l c = rch l c D := (greedy_gr h).2.count c fun i _ => rfl
theorem gm_ga (l : List Od) (c : Int) : gm l c ≤ ga l c := cnt_le fun i _ hi => by simp only [Bool.and_eq_true] at hi; exact hi.2
theorem ga_n (l : List Od) (c : Int) : ga l c ≤ l.length := cnt_le_n _ _

/-- Fine by fine: the orders that no day has room for. -/
theorem leastO_lay {l : List Od} (h : Ok6 l) {M : Nat} (hM : ∀ o ∈ l, o.2.1 ≤ (M : Int)) : leastO l = (lay (fun c => ga l c - gm l c) M : Int) := by
  have hf : ∀ i, i < l.length → 0 ≤ fnl l i ∧ fnl l i ≤ M := fun i hi => ⟨(h.fn hi).1, by
    have := hM _ (List.getElem_mem hi)
    simpa [fnl, List.getD, List.getElem?_eq_getElem hi] using this⟩
  have hb := (greedy_best h).2
  have e1 : tot l = (lay (fun c => ga l c) M : Int) := by
    unfold tot
    rw [cake (M := M) fun i hi _ => hf i hi]
    have : ∀ c : Nat, cnt (fun i => true && decide ((c : Int) ≤ fnl l i)) l.length = ga l c := fun c => cnt_congr fun i _ => rfl
    simp only [this]
  have e2 : ws (fnl l) (mem (greedy l [])) l.length = (lay (fun c => gm l c) M : Int) := by
    rw [cake (M := M) fun i hi _ => hf i hi]; rfl
  have e3 := lay_add (fun c => ga l (c : Int) - gm l (c : Int)) (fun c => gm l (c : Int)) M
  have e4 : lay (fun c => ga l (c : Int) - gm l (c : Int) + gm l (c : Int)) M = lay (fun c => ga l (c : Int)) M := by
    refine Nat.le_antisymm (lay_le fun c _ _ => ?_) (lay_le fun c _ _ => ?_) <;> (have := gm_ga l c; omega)
  omega

end Go.Proofs.Ytbblnbolabpfmaa
