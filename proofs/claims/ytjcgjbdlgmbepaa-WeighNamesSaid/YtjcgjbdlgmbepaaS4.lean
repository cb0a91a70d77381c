/-
  Twins and Left of both, as plain functions.
-/
import Derived.Test.YtjcgjbdlgmbepaaS3
namespace Go.Proofs.Ytjcgjbdlgmbepaa
open Go.RowKit
set_option linter.unusedVariables false

/-- The case with a number; all cases. -/
def num (n : Int) : List Int := cond (n == 0) [0, 0] [w64 (Int.tdiv (w64 (n - 1)) 2), w64 (1 - (w64 ((Int.tmod (w64 (n - 1)) 2) * 2)))]
theorem KB70 : FnOk Try.prog 70 (F70 fun n => some (num n)) := ok70 _ fun n r h => ⟨0, by
  rw [← h, m70, num]; cases n == 0 <;> rfl⟩
def cs (st : Int) : List (List Int) := (List.range (2 * st.toNat + 1)).map fun n => num (n : Nat)
theorem cs_len (st : Int) : (cs st).length = 2 * st.toNat + 1 := by simp [cs]
theorem cs_get (st : Int) {t : Nat} (h : t < (cs st).length) : (cs st).getD t [0, 0] = num t := by
  rw [List.getD_eq_getElem?_getD, List.getElem?_eq_getElem h]
  simp [cs]
/-- Ways are from -1 to 1. -/
theorem cs_way : ∀ st ∈ (List.range 14).map (fun (n : Nat) => (n : Int)), ∀ c ∈ cs st, -1 ≤ c.getD 1 0 ∧ c.getD 1 0 ≤ 1 := by decide +kernel
theorem st_mem {st : Int} (h : 1 ≤ st ∧ st ≤ 13) : st ∈ (List.range 14).map (fun (n : Nat) => (n : Int)) := by
  simp only [List.mem_map, List.mem_range]; exact ⟨st.toNat, by omega, by omega⟩
def B72 (st : Int) : Option (List (List Int)) := if 0 ≤ st ∧ st ≤ 13 then some (cs st) else none
theorem m72_all : ∀ k ∈ List.range 14, m72 20 ((k : Nat) : Int) = some (cs ((k : Nat) : Int)) := by decide +kernel
theorem KB72 : FnOk Try.prog 72 (F72 B72) := ok72 B72 fun st r h => ⟨20, by
  simp only [B72] at h
  split at h
  · rename_i hs
    rw [← h]
    have := m72_all st.toNat (List.mem_range.2 (by omega))
    rwa [show ((st.toNat : Nat) : Int) = st by omega] at this
  · cases h⟩
theorem w64_cases {st : Int} (h : 1 ≤ st ∧ st ≤ 13) : w64 (w64 (2 * st) + 1) = ((cs st).length : Int) := by
  rw [cs_len, w64_small (x := 2 * st) (by omega), w64_small (by omega)]; omega

/-- What is shown in a case. -/
def shC (p : List Wg) (c : List Int) : List Int := p.map (shR (c.getD 0 0) (c.getD 1 0))
theorem B66_c {st : Int} {p : List Wg} (hf : fair p) (h0 : planE st p = 0) {c : List Int} (hc : c ∈ cs st) : B66 p (c.getD 0 0) (c.getD 1 0) = some (shC p c) := by
  rw [B66, if_pos ⟨hf, cs_way st (st_mem (planE_zero h0).1) c hc⟩, shows_same h0]; rfl
theorem B67_c {st : Int} {p : List Wg} (hf : fair p) (h0 : planE st p = 0) {c : List Int} (hc : c ∈ cs st) : B67 p (c.getD 0 0) (c.getD 1 0) = some (shC p c) := by
  rw [B67, if_pos ⟨hf, cs_way st (st_mem (planE_zero h0).1) c hc⟩]; rfl
theorem shC_len (p : List Wg) (c : List Int) : (shC p c).length = p.length := by simp [shC]

def twGo (f : List Int → List Int) : List (List Int) → List Int × List Int × Int
  | [] => ([0, 0], [0, 0], 14)
  | x :: xs => match xs.find? (fun y => decide (f x = f y)) with
    | some y => (x, y, 0)
    | none => twGo f xs
/-- Twins. -/
def twinsS (st : Int) (p : List Wg) : List Int × List Int × Int := cond (planE st p == 0) (twGo (shC p) (cs st)) ([0, 0], [0, 0], planE st p)
def B37 (st : Int) (p : List Wg) : Option (List Int × List Int × Int) := if fair p then some (twinsS st p) else none

/-- A search among those behind. -/
def fnd (f : List Int → List Int) (x : List Int) (k : Option (List Int × List Int × Int)) (l : List (List Int)) : Option (List Int × List Int × Int) := match l.find? (fun y => decide (f x = f y)) with
  | some y => some (x, y, 0)
  | none => k
theorem fnd_hit {f : List Int → List Int} {x y : List Int} {k : Option (List Int × List Int × Int)} {l : List (List Int)} (h : f x = f y) : fnd f x k (y :: l) = some (x, y, 0) := by simp [fnd, h]
theorem fnd_miss {f : List Int → List Int} {x y : List Int} {k : Option (List Int × List Int × Int)} {l : List (List Int)} (h : ¬ f x = f y) : fnd f x k (y :: l) = fnd f x k l := by simp [fnd, h]
theorem fnd_tw {f : List Int → List Int} {x : List Int} {l : List (List Int)} : fnd f x (some (twGo f l)) l = some (twGo f (x :: l)) := by
  simp only [fnd, twGo]
  split <;> rfl

theorem KB37 : FnOk Try.prog 37 (F37 B37) := ok37 B36 B66 (fun n => some (num n)) Beq KB35 KB66 KB70 KB71 B37 fun st p r h => ⟨1001, by
  simp only [B37] at h
  split at h
  · rename_i hf
    rw [← h, m37, B36, if_pos hf, Option.bind_some, twinsS]
    cases e : planE st p == 0 with
    | false => simp only [bne, e, Bool.not_false, cond_true, cond_false]
    | true =>
      have e0 : planE st p = 0 := by simpa using e
      have hst := (planE_zero e0).1
      have hp := (planE_zero e0).2.1
      have hlen : (cs st).length ≤ 27 := by rw [cs_len]; omega
      simp only [bne, e, Bool.not_true, cond_true, cond_false]
      have inner : ∀ (i : Nat) (rest : List (List Int)) (rec : Int → Option (List Int × List Int × Int)), i < (cs st).length → (cs st).drop (i + 1) = rest → num i ∈ cs st → l37b B36 B66 (fun n => some (num n)) Beq 1001 st p (i : Int) rec 1001 0 = fnd (shC p) (num i) (rec ((i + 1 : Nat) : Int)) rest := by
        intro i rest rec hi hr hmi
        have main := rangeFrom (cs st) [0, 0] (fun n (_ : Unit) t => l37b B36 B66 (fun n => some (num n)) Beq 1001 st p (i : Int) rec n t) (fun t xs _ => fnd (shC p) (num i) (rec ((i + 1 : Nat) : Int)) (xs.drop (i + 1 - t)))
          (fun n _ t x rest' ht hx hd _ ih => by
            have hxn : x = num t := by rw [← hx]; exact cs_get st ht
            have hxm : x ∈ cs st := getD_mem ht hx
            simp only [l37b, w64_cases hst, ixA ht, cond_true, Option.bind_some, ixW ht (by omega), ih ()]
            by_cases c : t > i
            · rw [decide_eq_true (show (t : Int) > i by omega), cond_true, B66_c hf e0 hmi, Option.bind_some, ← hxn, B66_c hf e0 hxm, Option.bind_some, Beq, if_pos (by rw [shC_len]; omega), Option.bind_some,
                show i + 1 - t = 0 by omega, show i + 1 - (t + 1) = 0 by omega, List.drop_zero, List.drop_zero]
              by_cases q : shC p (num i) = shC p x
              · rw [decide_eq_true q, cond_true, fnd_hit q]
              · rw [decide_eq_false q, cond_false, fnd_miss q]
            · rw [decide_eq_false (show ¬ (t : Int) > i by omega), cond_false, show i + 1 - t = (i + 1 - (t + 1)) + 1 by omega, List.drop_succ_cons])
          (fun n _ => by
            simp only [l37b, w64_cases hst, ixE, cond_false, List.drop_nil, ixW hi (by omega)]
            rfl) 1001 () 0 (by omega) (by omega)
        have main' : l37b B36 B66 (fun n => some (num n)) Beq 1001 st p (i : Int) rec 1001 0 = _ := main
        rw [main']
        simp only [List.drop_zero, Nat.sub_zero, hr]
      have outer := rangeFrom (cs st) [0, 0] (fun n (_ : Unit) t => l37a B36 B66 (fun n => some (num n)) Beq 1001 st p n t) (fun t xs _ => some (twGo (shC p) xs))
        (fun n _ t x rest ht hx hd hr ih => by
          have hxn : x = num t := by rw [← hx]; exact cs_get st ht
          have hxm : x ∈ cs st := getD_mem ht hx
          simp only [l37a, w64_cases hst, ixA ht, cond_true]
          rw [inner t rest _ ht hr (hxn ▸ hxm), ih (), fnd_tw, hxn])
        (fun n _ => by simp only [l37a, w64_cases hst, ixE, cond_false]; rfl) 1001 () 0 (by omega) (by omega)
      exact outer
  · cases h⟩

theorem KB38 : FnOk Try.prog 38 (F38 B37) := ok38 B36 B67 B72 Beq KB36 KB67 KB72 KB73 B37 fun st p r h => ⟨1001, by
  simp only [B37] at h
  split at h
  · rename_i hf
    rw [← h, m38, B36, if_pos hf, Option.bind_some, twinsS]
    cases e : planE st p == 0 with
    | false => simp only [bne, e, Bool.not_false, cond_true, cond_false]
    | true =>
      have e0 : planE st p = 0 := by simpa using e
      have hst := (planE_zero e0).1
      have hp := (planE_zero e0).2.1
      have hlen : (cs st).length ≤ 27 := by rw [cs_len]; omega
      simp only [bne, e, Bool.not_true, cond_true, cond_false]
      rw [B72, if_pos (by omega), Option.bind_some]
      have outer := rangeFrom (cs st) [0, 0] (fun n (_ : Unit) t => l38a B36 B67 B72 Beq 1001 p (cs st) n t) (fun t xs _ => some (twGo (shC p) xs))
        (fun n _ i x rest hi hx hd hr ih => by
          have hxm : x ∈ cs st := getD_mem hi hx
          simp only [l38a, ixA hi, cond_true, ixW hi (by omega)]
          have main := rangeFrom (cs st) [0, 0] (fun m (_ : Unit) t => l38b B36 B67 B72 Beq 1001 p (cs st) (i : Int) (fun y0 => l38a B36 B67 B72 Beq 1001 p (cs st) n y0) m t) (fun t xs _ => fnd (shC p) x (some (twGo (shC p) rest)) xs)
            (fun m _ t y rest' ht hy hd' _ ih' => by
              have hym : y ∈ cs st := getD_mem ht hy
              simp only [l38b, ixA ht, ixB ht, ixB hi, chk_true, cond_true, Int.toNat_natCast, hx, hy, B67_c hf e0 hxm, B67_c hf e0 hym, Option.bind_some, Beq, if_pos (show (shC p x).length ≤ 1000 by rw [shC_len]; omega), ixW ht (by omega), ih' ()]
              by_cases q : shC p x = shC p y
              · rw [decide_eq_true q, cond_true, fnd_hit q]
              · rw [decide_eq_false q, cond_false, fnd_miss q])
            (fun m _ => by
              simp only [l38b, ixE, cond_false, ixW hi (by omega), ih ()]
              rfl) 1001 () (i + 1) (by omega) (by omega)
          refine Eq.trans main ?_
          rw [hr, fnd_tw])
        (fun n _ => by simp only [l38a, ixE, cond_false]; rfl) 1001 () 0 (by omega) (by omega)
      exact outer
  · cases h⟩
end Go.Proofs.Ytjcgjbdlgmbepaa
