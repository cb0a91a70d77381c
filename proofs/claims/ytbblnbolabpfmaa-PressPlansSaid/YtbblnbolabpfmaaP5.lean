/-
  The queue, and the least fines.
-/
import Derived.Test.YtbblnbolabpfmaaP4
namespace Go.Proofs.Ytbblnbolabpfmaa
open Go.RowKit
set_option linter.unusedVariables false

/-- Behind all that are not smaller. -/
def putO (x : Od) : List Od → List Od
  | [] => [x]
  | y :: r => if y.2.1 < x.2.1 then x :: y :: r else y :: putO x r
def FallO (p : List Od) : Prop := p.Pairwise fun a b => b.2.1 ≤ a.2.1

theorem putO_mem {x : Od} : ∀ {p : List Od} {y : Od}, y ∈ putO x p ↔ y = x ∨ y ∈ p
  | [], y => by simp [putO]
  | z :: r, y => by
    unfold putO
    split
    · simp
    · simp only [List.mem_cons, putO_mem (p := r)]
      constructor
      · rintro (h | h | h)
        · exact .inr (.inl h)
        · exact .inl h
        · exact .inr (.inr h)
      · rintro (h | h | h)
        · exact .inr (.inl h)
        · exact .inl h
        · exact .inr (.inr h)

theorem putO_fall {x : Od} : ∀ {p : List Od}, FallO p → FallO (putO x p)
  | [], _ => by simp [putO, FallO]
  | y :: r, h => by
    obtain ⟨h1, h2⟩ := List.pairwise_cons.1 h
    unfold putO
    split
    · rename_i hlt
      refine List.pairwise_cons.2 ⟨fun z hz => ?_, h⟩
      rcases List.mem_cons.1 hz with rfl | hz
      · omega
      · have := h1 z hz; omega
    · rename_i hlt
      refine List.pairwise_cons.2 ⟨fun z hz => ?_, putO_fall h2⟩
      rcases putO_mem.1 hz with rfl | hz
      · omega
      · exact h1 z hz

theorem putO_len {x : Od} : ∀ {p : List Od}, (putO x p).length = p.length + 1
  | [] => rfl
  | y :: r => by
    unfold putO
    split
    · simp
    · simp only [List.length_cons, putO_len (p := r)]

theorem putO_split (x : Od) : ∀ {p : List Od}, FallO p → ∃ A B, p = A ++ B ∧ (∀ a ∈ A, x.2.1 ≤ a.2.1) ∧ (∀ b ∈ B, b.2.1 < x.2.1) ∧ putO x p = A ++ x :: B
  | [], _ => ⟨[], [], rfl, by simp, by simp, rfl⟩
  | y :: r, h => by
    obtain ⟨h1, h2⟩ := List.pairwise_cons.1 h
    by_cases hlt : y.2.1 < x.2.1
    · refine ⟨[], y :: r, rfl, by simp, fun b hb => ?_, by rw [putO, if_pos hlt]; rfl⟩
      rcases List.mem_cons.1 hb with rfl | hb
      · exact hlt
      · have := h1 b hb; omega
    · obtain ⟨A, B, e1, e2, e3, e4⟩ := putO_split x h2
      refine ⟨y :: A, B, by rw [e1]; rfl, fun a ha => ?_, e3, by rw [putO, if_neg hlt, e4]; rfl⟩
      rcases List.mem_cons.1 ha with rfl | ha
      · omega
      · exact e2 a ha

theorem cmpI_neg (x y : Int) : decide (cmpI x y < 0) = decide (x < y) := cmpI_lt x y

instance (p : List Od) : Decidable (FallO p) := by unfold FallO; infer_instance
def B73 (x : Od) (p : List Od) : Option (List Od) := if p.length ≤ 100000 ∧ FallO p then some (putO x p) else none

theorem put_loop (x : Od) {A B : List Od} (hA : ∀ a ∈ A, x.2.1 ≤ a.2.1) (hB : ∀ b ∈ B, b.2.1 < x.2.1) (hl : (A ++ B).length ≤ 100000) (N : Nat) : ∀ (m n : Nat), m ≤ B.length → m < n → l73ca B72 A85 N x (A ++ B) n ((A.length + m : Nat) : Int) = some (A ++ x :: B)
  | 0, n, hm, hn => by
    obtain ⟨k, rfl⟩ : ∃ k, n = k + 1 := ⟨n - 1, by omega⟩
    rw [List.length_append] at hl
    have hins : A85 ((A.length + 0 : Nat) : Int) [x] (A ++ B) = some (A ++ x :: B) := by
      rw [A85, if_pos ⟨by omega, by rw [List.length_append]; omega, rfl, by rw [List.length_append]; omega⟩]
      simp
    cases hz : decide (((A.length + 0 : Nat) : Int) > 0) with
    | false => simp only [l73ca, hz, cond_false, hins, Option.bind_some]
    | true =>
      have hz' : 0 < A.length := by have := of_decide_eq_true hz; omega
      have e : w64 (((A.length + 0 : Nat) : Int) - 1) = ((A.length - 1 : Nat) : Int) := by rw [w64_small (by omega)]; omega
      have hget : (A ++ B).getD (A.length - 1) d3 ∈ A := by
        rw [List.getD_eq_getElem?_getD, List.getElem?_append_left (by omega), List.getElem?_eq_getElem (by omega), Option.getD_some]
        exact List.getElem_mem _
      have h2 := hA _ hget
      have hc : decide (cmpI ((A ++ B).getD (A.length - 1) d3).2.1 x.2.1 < 0) = false := by rw [cmpI_lt]; exact decide_eq_false (by omega)
      simp only [l73ca, hz, cond_true, e, ixB (show A.length - 1 < (A ++ B).length by rw [List.length_append]; omega), chk_true, Int.toNat_natCast, B72, Option.bind_some, hc, cond_false, hins]
  | m + 1, n, hm, hn => by
    obtain ⟨k, rfl⟩ : ∃ k, n = k + 1 := ⟨n - 1, by omega⟩
    have hl' := hl
    rw [List.length_append] at hl
    have hz : decide (((A.length + (m + 1) : Nat) : Int) > 0) = true := decide_eq_true (by omega)
    have e : w64 (((A.length + (m + 1) : Nat) : Int) - 1) = ((A.length + m : Nat) : Int) := by rw [w64_small (by omega)]; omega
    have hget : (A ++ B).getD (A.length + m) d3 ∈ B := by
      rw [List.getD_eq_getElem?_getD, List.getElem?_append_right (by omega), Nat.add_sub_cancel_left, List.getElem?_eq_getElem (by omega), Option.getD_some]
      exact List.getElem_mem _
    have h2 := hB _ hget
    have hc : decide (cmpI ((A ++ B).getD (A.length + m) d3).2.1 x.2.1 < 0) = true := by rw [cmpI_lt]; exact decide_eq_true h2
    have ih := put_loop x hA hB hl' N m k (by omega) (by omega)
    simp only [l73ca, hz, cond_true, e, ixB (show A.length + m < (A ++ B).length by rw [List.length_append]; omega), chk_true, Int.toNat_natCast, B72, Option.bind_some, hc, ih]

theorem KB73 : FnOk Try.prog 73 (F73c B73) := ok73c B72 A85 KB72 ok85 B73 fun x p r h => ⟨100001, by
  simp only [B73] at h
  split at h
  · rename_i hh
    obtain ⟨A, B, rfl, hA, hB, e⟩ := putO_split x hh.2
    rw [← h, m73c, e]
    have := put_loop x hA hB hh.1 100001 B.length 100001 (Nat.le_refl _) (by have := hh.1; rw [List.length_append] at this; omega)
    rw [← List.length_append] at this
    exact this
  · cases h⟩

def takeO : List Od → Od × Bool × List Od
  | [] => (d3, false, [])
  | x :: r => (x, true, r)
def B74 (p : List Od) : Option (Od × Bool × List Od) := if p.length ≤ 1000000 then some (takeO p) else none
theorem KB74 : FnOk Try.prog 74 (F74c B74) := ok74c B74 fun p r h => ⟨0, by
  simp only [B74] at h
  split at h
  · rw [← h, m74c]
    cases p with
    | nil => rfl
    | cons x r =>
      have h1 : ((((x :: r).length : Nat) : Int) == 0) = false := by simp; omega
      have h2 : decide ((0 : Int) ≤ 0 ∧ (0 : Int) < (((x :: r).length : Nat) : Int)) = true := decide_eq_true (by rw [List.length_cons]; omega)
      have h3 : decide ((0 : Int) ≤ 1 ∧ (1 : Int) ≤ (((x :: r).length : Nat) : Int)) = true := decide_eq_true (by rw [List.length_cons]; omega)
      rw [h1, h2, h3]; rfl
  · cases h⟩

/-! ### the least fines -/
def dayO (l : List Od) (t : Nat) (Q : List Od) : List Od := l.foldl (fun q o => cond (o.1 == (t : Int)) (putO o q) q) Q
def runO (l : List Od) : Nat → List Od → Int
  | 0, _ => 0
  | t + 1, Q => match dayO l (t + 1) Q with
    | [] => runO l t []
    | o :: r => o.2.1 + runO l t r
def lastO (l : List Od) : Int := l.foldl (fun m o => imax m o.1) 0
def sumO : List Od → Int
  | [] => 0
  | o :: r => o.2.1 + sumO r
def leastO (l : List Od) : Int := sumO l - runO l (lastO l).toNat []

/-- Orders with days up to 60. -/
structure Ok6 (l : List Od) : Prop where
  len : l.length ≤ 12
  all : ∀ o ∈ l, (1 ≤ o.1 ∧ o.1 ≤ 60) ∧ 0 ≤ o.2.1 ∧ o.2.1 ≤ 10000
instance (l : List Od) : Decidable (Ok6 l) := decidable_of_iff (l.length ≤ 12 ∧ ∀ o ∈ l, (1 ≤ o.1 ∧ o.1 ≤ 60) ∧ 0 ≤ o.2.1 ∧ o.2.1 ≤ 10000) ⟨fun h => ⟨h.1, h.2⟩, fun h => ⟨h.1, h.2⟩⟩

theorem imax_eq (a b : Int) : imax a b = if a < b then b else a := by
  unfold imax
  by_cases h : a < b <;> simp [h] <;> omega

theorem lastO_le {l : List Od} : ∀ {m : Int}, 0 ≤ m → m ≤ 60 → (∀ o ∈ l, 1 ≤ o.1 ∧ o.1 ≤ 60) → 0 ≤ l.foldl (fun m o => imax m o.1) m ∧ l.foldl (fun m o => imax m o.1) m ≤ 60 ∧ m ≤ l.foldl (fun m o => imax m o.1) m ∧ ∀ o ∈ l, o.1 ≤ l.foldl (fun m o => imax m o.1) m := by
  induction l with
  | nil => intro m h0 h1 _; exact ⟨h0, h1, Int.le_refl _, fun _ h => by cases h⟩
  | cons x r ih =>
    intro m h0 h1 h
    have hx := h x (by simp)
    simp only [List.foldl_cons]
    have hi := imax_eq m x.1
    have hb : 0 ≤ imax m x.1 ∧ imax m x.1 ≤ 60 ∧ m ≤ imax m x.1 ∧ x.1 ≤ imax m x.1 := by rw [hi]; split <;> omega
    obtain ⟨a, b, c, d⟩ := ih hb.1 hb.2.1 (fun o ho => h o (List.mem_cons_of_mem _ ho))
    refine ⟨a, b, by omega, fun o ho => ?_⟩
    rcases List.mem_cons.1 ho with rfl | ho
    · omega
    · exact d o ho

theorem sumO_le {l : List Od} (h : ∀ o ∈ l, 0 ≤ o.2.1 ∧ o.2.1 ≤ 10000) : 0 ≤ sumO l ∧ sumO l ≤ 10000 * l.length := by
  induction l with
  | nil => simp [sumO]
  | cons x r ih =>
    have hx := h x (by simp)
    obtain ⟨a, b⟩ := ih fun o ho => h o (List.mem_cons_of_mem _ ho)
    simp only [sumO, List.length_cons]; omega

/-- What a queue has. -/
structure QO (b : Nat) (Q : List Od) : Prop where
  len : Q.length ≤ b
  fall : FallO Q
  all : ∀ o ∈ Q, 0 ≤ o.2.1 ∧ o.2.1 ≤ 10000

theorem QO.put {b : Nat} {Q : List Od} (h : QO b Q) {x : Od} (hx : 0 ≤ x.2.1 ∧ x.2.1 ≤ 10000) : QO (b + 1) (putO x Q) := ⟨by rw [putO_len]; have := h.len; omega, putO_fall h.fall, fun o ho => by
  rcases putO_mem.1 ho with rfl | ho
  · exact hx
  · exact h.all o ho⟩

theorem dayO_ok {t : Nat} : ∀ {l : List Od} {b : Nat} {Q : List Od}, (∀ o ∈ l, 0 ≤ o.2.1 ∧ o.2.1 ≤ 10000) → QO b Q → QO (b + l.length) (dayO l t Q)
  | [], b, Q, _, h => h
  | x :: r, b, Q, hl, h => by
    unfold dayO
    simp only [List.foldl_cons]
    have hx := hl x (by simp)
    have hr : ∀ o ∈ r, 0 ≤ o.2.1 ∧ o.2.1 ≤ 10000 := fun o ho => hl o (List.mem_cons_of_mem _ ho)
    cases x.1 == (t : Int) with
    | true =>
      rw [cond_true]
      have := dayO_ok (t := t) hr (h.put hx)
      rw [show b + 1 + r.length = b + (x :: r).length by simp; omega] at this
      exact this
    | false =>
      rw [cond_false]
      have := dayO_ok (t := t) (b := b) (Q := Q) hr h
      exact ⟨by have := this.len; simp only [List.length_cons]; unfold dayO at this; omega, this.fall, this.all⟩

theorem fill_loop {l : List Od} (hl : Ok6 l) {last n : Int} {tb : Int} {t : Nat} (ht : w64 (last - tb) = (t : Int)) {rec : Int → Int → List Od → Option Int} {Q : List Od} {b : Nat} (hQ : QO b Q) (hb : b ≤ 90000) (N : Nat) (hN : 1001 ≤ N) : l53c B73 B74 N l last n tb rec N 0 Q = (B74 (dayO l t Q)).bind fun r => cond r.2.1 (rec (w64 (n - r.1.2.1)) (w64 (tb + 1)) r.2.2) (rec n (w64 (tb + 1)) r.2.2) :=
  rangeInv l d3 (fun k (Q : List Od) t => l53c B73 B74 N l last n tb rec k t Q) (fun xs Q => (∃ b, QO b Q ∧ b + xs.length ≤ 90012) ∧ ∀ o ∈ xs, 0 ≤ o.2.1 ∧ o.2.1 ≤ 10000) (fun xs Q => (B74 (dayO xs t Q)).bind fun r => cond r.2.1 (rec (w64 (n - r.1.2.1)) (w64 (tb + 1)) r.2.2) (rec n (w64 (tb + 1)) r.2.2))
    (fun k Q i x rest hi hx hI ih => by
      obtain ⟨⟨b, hQ, hb⟩, hall⟩ := hI
      simp only [List.length_cons] at hb
      have hbl := hQ.len
      have hput : B73 x Q = some (putO x Q) := if_pos ⟨by omega, hQ.fall⟩
      have hle := hl.len
      simp only [l53c, ixA hi, ixB hi, cond_true, chk_true, Int.toNat_natCast, ixW hi (by omega), hx, ht, hput, Option.bind_some]
      have hall' : ∀ o ∈ rest, 0 ≤ o.2.1 ∧ o.2.1 ≤ 10000 := fun o ho => hall o (List.mem_cons_of_mem _ ho)
      rw [ih (putO x Q) ⟨⟨b + 1, hQ.put (hall x (by simp)), by omega⟩, hall'⟩, ih Q ⟨⟨b, hQ, by omega⟩, hall'⟩]
      show _ = (B74 (dayO rest t (cond (x.1 == (t : Int)) (putO x Q) Q))).bind _
      cases x.1 == (t : Int) <;> rfl)
    (fun k Q hI => by simp only [l53c, ixE, cond_false]; rfl) N Q (by have := hl.len; omega) ⟨⟨b, hQ, by have := hl.len; omega⟩, fun o ho => (hl.all o ho).2⟩

theorem runO_le {l : List Od} (hl : ∀ o ∈ l, 0 ≤ o.2.1 ∧ o.2.1 ≤ 10000) : ∀ (t : Nat) {b : Nat} {Q : List Od}, QO b Q → 0 ≤ runO l t Q ∧ runO l t Q ≤ 10000 * t
  | 0, b, Q, _ => by simp [runO]
  | t + 1, b, Q, hQ => by
    have hd := dayO_ok (t := t + 1) hl hQ
    simp only [runO]
    cases he : dayO l (t + 1) Q with
    | nil => have := runO_le hl t (b := 0) (Q := []) ⟨by simp, by simp [FallO], by simp⟩; simp only; omega
    | cons o r =>
      rw [he] at hd
      have ho := hd.all o (by simp)
      have hr : QO (b + l.length) r := ⟨by have := hd.len; simp only [List.length_cons] at this; omega, (List.pairwise_cons.1 hd.fall).2, fun o ho => hd.all o (List.mem_cons_of_mem _ ho)⟩
      have := runO_le hl t hr
      simp only; omega

theorem back_loop {l : List Od} (hl : Ok6 l) {L : Nat} (hL : L ≤ 60) (N : Nat) (hN : 1001 ≤ N) : ∀ (t k : Nat) (n : Int) (Q : List Od), t ≤ L → t < k → QO (12 * (60 - t)) Q → -1000000 + 10000 * (t : Int) ≤ n ∧ n ≤ 1000000 → l53b B73 B74 N l (L : Int) k n ((L - t : Nat) : Int) Q = some (n - runO l t Q) := by
  intro t
  induction t with
  | zero =>
    intro k n Q h1 h2 hQ hn
    obtain ⟨k, rfl⟩ : ∃ m, k = m + 1 := ⟨k - 1, by omega⟩
    simp only [l53b, Nat.sub_zero, ixE, cond_false, runO, Int.sub_zero]
  | succ t ih =>
    intro k n Q h1 h2 hQ hn
    obtain ⟨k, rfl⟩ : ∃ m, k = m + 1 := ⟨k - 1, by omega⟩
    have hf : ∀ o ∈ l, 0 ≤ o.2.1 ∧ o.2.1 ≤ 10000 := fun o ho => (hl.all o ho).2
    have hd := dayO_ok (t := t + 1) hf hQ
    have hlen := hl.len
    have e1 : w64 ((L : Int) - ((L - (t + 1) : Nat) : Int)) = ((t + 1 : Nat) : Int) := by rw [w64_small (by omega)]; omega
    have e2 : w64 (((L - (t + 1) : Nat) : Int) + 1) = ((L - t : Nat) : Int) := by rw [w64_small (by omega)]; omega
    have hd' : QO (12 * (60 - t)) (dayO l (t + 1) Q) := ⟨by have := hd.len; omega, hd.fall, hd.all⟩
    simp only [l53b, decide_eq_true (show ((L - (t + 1) : Nat) : Int) < (L : Int) by omega), cond_true]
    rw [fill_loop hl e1 hQ (by omega) N hN, B74, if_pos (by have := hd'.len; omega), Option.bind_some, e2]
    simp only [runO]
    cases he : dayO l (t + 1) Q with
    | nil =>
      simp only [takeO, cond_false]
      exact ih k n [] (by omega) (by omega) ⟨by simp, by simp [FallO], by simp⟩ (by omega)
    | cons o r =>
      rw [he] at hd'
      have ho := hd'.all o (by simp)
      have hr : QO (12 * (60 - t)) r := ⟨by have := hd'.len; simp only [List.length_cons] at this; omega, (List.pairwise_cons.1 hd'.fall).2, fun o ho => hd'.all o (List.mem_cons_of_mem _ ho)⟩
      simp only [takeO, cond_true]
      rw [w64_small (by omega), ih k _ r (by omega) (by omega) hr (by omega)]
      congr 1; omega

def B53 (l : List Od) : Option Int := if Ok6 l then some (leastO l) else none
theorem KB53 : FnOk Try.prog 53 (F53 B53) := ok53 B73 B74 KB73 KB74 B53 fun l r h => ⟨1001, by
  simp only [B53] at h
  split at h
  · rename_i hl
    rw [← h, m53]
    obtain ⟨c1, c2, _, _⟩ := lastO_le (l := l) (m := 0) (by omega) (by omega) fun o ho => (hl.all o ho).1
    obtain ⟨s1, s2⟩ := sumO_le fun o ho => (hl.all o ho).2
    have hlen := hl.len
    obtain ⟨L, hL⟩ : ∃ L : Nat, lastO l = L := ⟨(lastO l).toNat, by unfold lastO; omega⟩
    have main := rangeInv l d3 (fun k (s : Int × Int) t => l53a B73 B74 1001 l k s.1 s.2 t) (fun xs s => 0 ≤ s.2 ∧ s.2 + sumO xs ≤ 1000000 ∧ xs.foldl (fun m o => imax m o.1) s.1 = lastO l ∧ ∀ o ∈ xs, 0 ≤ o.2.1 ∧ o.2.1 ≤ 10000) (fun xs s => some (s.2 + sumO xs - runO l (lastO l).toNat []))
      (fun k s t x rest ht hx hI ih => by
        obtain ⟨i1, i2, i3, i4⟩ := hI
        have hx0 := i4 x (by simp)
        have hr0 : ∀ o ∈ rest, 0 ≤ o.2.1 ∧ o.2.1 ≤ 10000 := fun o ho => i4 o (List.mem_cons_of_mem _ ho)
        have := sumO_le hr0
        simp only [sumO] at i2 ⊢
        simp only [l53a, ixA ht, ixB ht, cond_true, chk_true, Int.toNat_natCast, ixW ht (by omega), hx]
        rw [w64_small (by omega), ih (imax s.1 x.1, s.2 + x.2.1) ⟨by show 0 ≤ s.2 + x.2.1; omega, by show s.2 + x.2.1 + sumO rest ≤ _; omega, i3, hr0⟩]
        show some (s.2 + x.2.1 + sumO rest - _) = _
        congr 1; omega)
      (fun k s hI => by
        obtain ⟨i1, i2, i3, i4⟩ := hI
        simp only [List.foldl_nil] at i3
        simp only [sumO, Int.add_zero] at i2 ⊢
        simp only [l53a, ixE, cond_false, i3, hL, Int.toNat_natCast]
        have hL6 : (L : Int) ≤ 60 := by rw [← hL]; exact c2
        have := back_loop hl (L := L) (by omega) 1001 (by omega) L 1001 s.2 [] (Nat.le_refl _) (by omega) ⟨by simp, by simp [FallO], by simp⟩ (by omega)
        rw [Nat.sub_self] at this
        exact this) 1001 (0, 0) (by omega) ⟨by simp, by simp; omega, rfl, fun o ho => (hl.all o ho).2⟩
    rw [main]; simp [leastO]
  · cases h⟩

/-! ### what they are -/
theorem qput_map (l : List Od) (i : Nat) : ∀ Q : List Nat, putO (l.getD i d3) (Q.map fun j => l.getD j d3) = (qput (fnl l) i Q).map fun j => l.getD j d3
  | [] => rfl
  | j :: r => by
    simp only [List.map_cons, putO, qput]
    have e : fnl l j < fnl l i ↔ (l.getD j d3).2.1 < (l.getD i d3).2.1 := Iff.rfl
    by_cases h : (l.getD j d3).2.1 < (l.getD i d3).2.1
    · rw [if_pos h, if_pos (e.2 h)]; rfl
    · rw [if_neg h, if_neg fun q => h (e.1 q), qput_map l i r]; rfl

theorem map_range (l : List Od) : ((List.range l.length).map fun j => l.getD j d3) = l := by
  apply List.ext_getElem
  · simp
  · intro i h1 h2
    simp [List.getD, List.getElem?_eq_getElem h2]

theorem day_map {l : List Od} (h1 : ∀ o ∈ l, 1 ≤ o.1) (t : Nat) (Q : List Nat) : dayO l t (Q.map fun j => l.getD j d3) = (qday (dyl l) (fnl l) l.length t Q).map fun j => l.getD j d3 := by
  have key : ∀ (I : List Nat) (Q : List Nat), (∀ i ∈ I, i < l.length) → ((I.map fun j => l.getD j d3).foldl (fun q o => cond (o.1 == (t : Int)) (putO o q) q) (Q.map fun j => l.getD j d3)) = (I.foldl (fun q i => if dyl l i = t then qput (fnl l) i q else q) Q).map fun j => l.getD j d3 := by
    intro I
    induction I with
    | nil => intro Q _; rfl
    | cons i I ih =>
      intro Q hI
      simp only [List.map_cons, List.foldl_cons]
      have hi := hI i (by simp)
      have hd := h1 _ (List.getElem_mem hi)
      have hg : l.getD i d3 = l[i] := by simp [List.getD, List.getElem?_eq_getElem hi]
      have e : dyl l i = t ↔ (l.getD i d3).1 = (t : Int) := by unfold dyl; rw [hg]; omega
      by_cases h : dyl l i = t
      · have hb : ((l.getD i d3).1 == (t : Int)) = true := by simpa using e.1 h
        rw [hb, cond_true, if_pos h, qput_map, ih _ fun j hj => hI j (List.mem_cons_of_mem _ hj)]
      · have hb : ((l.getD i d3).1 == (t : Int)) = false := by
          cases q : ((l.getD i d3).1 == (t : Int)) with
          | false => rfl
          | true => exact absurd (e.2 (by simpa using q)) h
        rw [hb, cond_false, if_neg h, ih _ fun j hj => hI j (List.mem_cons_of_mem _ hj)]
  have := key (List.range l.length) Q fun i hi => List.mem_range.1 hi
  rw [map_range] at this
  exact this

theorem runO_run {l : List Od} (h1 : ∀ o ∈ l, 1 ≤ o.1) : ∀ (t : Nat) (Q : List Nat), runO l t (Q.map fun j => l.getD j d3) = run (dyl l) (fnl l) l.length t Q
  | 0, Q => rfl
  | t + 1, Q => by
    simp only [runO, run]
    rw [day_map h1]
    cases qday (dyl l) (fnl l) l.length (t + 1) Q with
    | nil => exact runO_run h1 t []
    | cons i r => simp only [List.map_cons]; rw [runO_run h1 t r]; rfl

/-- All fines. -/
def tot (l : List Od) : Int := ws (fnl l) (fun _ => true) l.length

theorem ws_shift (f : Nat → Int) (p : Nat → Bool) : ∀ n, ws f p (n + 1) = cond (p 0) (f 0) 0 + ws (fun i => f (i + 1)) (fun i => p (i + 1)) n
  | 0 => by simp [ws]
  | n + 1 => by
    rw [ws, ws_shift f p n]; simp only [ws]; omega
theorem sumO_tot : ∀ l : List Od, sumO l = tot l
  | [] => rfl
  | x :: r => by
    have := ws_shift (fnl (x :: r)) (fun _ => true) r.length
    rw [sumO, sumO_tot r]; exact this.symm

theorem fnl_rng {l : List Od} {M : Int} (h : ∀ o ∈ l, 0 ≤ o.2.1 ∧ o.2.1 ≤ M) {i : Nat} (hi : i < l.length) : 0 ≤ fnl l i ∧ fnl l i ≤ M := by
  have := h _ (List.getElem_mem hi)
  simpa [fnl, List.getD, List.getElem?_eq_getElem hi] using this
theorem dyl_rng {l : List Od} {M : Nat} (h : ∀ o ∈ l, 1 ≤ o.1 ∧ o.1 ≤ (M : Int)) {i : Nat} (hi : i < l.length) : 1 ≤ dyl l i ∧ dyl l i ≤ M := by
  have := h _ (List.getElem_mem hi)
  have e : dyl l i = (l[i]).1.toNat := by simp [dyl, List.getD, List.getElem?_eq_getElem hi]
  rw [e]; omega

/-- THE LEAST FINES: no possible set leaves less, and one leaves as much. -/
theorem leastO_ok {l : List Od} (h : Ok6 l) : (∀ T, Pos (dyl l) l.length T → leastO l ≤ tot l - ws (fnl l) T l.length) ∧ ∃ T, Pos (dyl l) l.length T ∧ leastO l = tot l - ws (fnl l) T l.length := by
  obtain ⟨c1, c2, _, c4⟩ := lastO_le (l := l) (m := 0) (by omega) (by omega) fun o ho => (h.all o ho).1
  have hL : ∀ i, i < l.length → dyl l i ≤ (lastO l).toNat := fun i hi => by
    have := c4 _ (List.getElem_mem hi)
    have e : dyl l i = (l[i]).1.toNat := by simp [dyl, List.getD, List.getElem?_eq_getElem hi]
    rw [e]; unfold lastO; omega
  obtain ⟨o1, T, o2, o3⟩ := run_opt (dy := dyl l) (f := fnl l) (n := l.length) (fun i hi => (fnl_rng (fun o ho => (h.all o ho).2) hi).1) hL
  have e := runO_run (fun o ho => (h.all o ho).1.1) (lastO l).toNat []
  rw [List.map_nil] at e
  unfold leastO
  rw [sumO_tot, e]
  exact ⟨fun T hT => by have := o1 T hT; omega, T, o2, by rw [o3]⟩

end Go.Proofs.Ytbblnbolabpfmaa
