/-
  What Makes and Copies answer.
-/
import Derived.Test.YtbjfbbfglkmadaaDoorMP
namespace Go.Proofs.YtbjfbbfglkmadaaDoor
open Go.RowKit
set_option linter.unusedVariables false

def maE (c : Cd) (l w : List Int) : Int := cond (decide (cdE c = 0)) (cond (decide (coE c l = 0)) (cond (decide (wE c w = 0)) (cond (mk c l w) 0 13) (wE c w)) (coE c l)) (cdE c)
def B20 (c : Cd) (l w : List Int) : Option Int := if smB c = true ∧ l.length ≤ 1000 ∧ w.length ≤ 1000 then some (maE c l w) else none
theorem KB20 : FnOk Tryd.prog 20 (F20 B20) := ok20 B22 B55 B58 B59 KB22 KB55 KB58 KB59 B20 fun c l w r h => ⟨0, by
  simp only [B20] at h
  split at h
  · rename_i hs
    obtain ⟨h1, h2, h3⟩ := hs
    rw [← h, m20, B22, if_pos h1, Option.bind_some]
    simp only [beqDec, maE]
    cases e : decide (cdE c = 0) with
    | false => rfl
    | true =>
      have hc := of_decide_eq_true e
      obtain ⟨_, hn, _⟩ := cdE_ok hc
      have e55 : B55 c l = some (coE c l) := if_pos ⟨h2, by omega⟩
      simp only [cond_true, e55, Option.bind_some]
      cases e2 : decide (coE c l = 0) with
      | false => rfl
      | true =>
        have e58 : B58 c w = some (wE c w) := if_pos ⟨hn.1, h3⟩
        simp only [cond_true, e58, Option.bind_some]
        cases e3 : decide (wE c w = 0) with
        | false => rfl
        | true =>
          have e59 : B59 c l w = some (mk c l w) := if_pos (okC_of hc (of_decide_eq_true e2) (of_decide_eq_true e3) h2)
          simp only [cond_true, e59, Option.bind_some]
          cases mk c l w with
          | false => rfl
          | true => simp only [Bool.not_true, cond_false, cond_true, of_decide_eq_true e3]
  · cases h⟩
end Go.Proofs.YtbjfbbfglkmadaaDoor
