/-
  Orders and days, in plain Lean: from the last day on, the greatest fine that waits.
-/
import Derived.Test.YtbblnbolabpfmaaD2
namespace Go.Proofs.Ytbblnbolabpfmaa

/-- Behind all that are not smaller. -/
def qput (f : Nat → Int) (i : Nat) : List Nat → List Nat
  | [] => [i]
  | j :: r => if f j < f i then i :: j :: r else j :: qput f i r

def qday (dy : Nat → Nat) (f : Nat → Int) (n t : Nat) (Q : List Nat) : List Nat := (List.range n).foldl (fun q i => if dy i = t then qput f i q else q) Q

def run (dy : Nat → Nat) (f : Nat → Int) (n : Nat) : Nat → List Nat → Int
  | 0, _ => 0
  | t + 1, Q => match qday dy f n (t + 1) Q with
    | [] => run dy f n t []
    | i :: r => f i + run dy f n t r

theorem qput_mem {f : Nat → Int} {i : Nat} : ∀ {Q : List Nat} {x : Nat}, x ∈ qput f i Q ↔ x = i ∨ x ∈ Q
  | [], x => by simp [qput]
  | j :: r, x => by
    unfold qput
    split
    · simp
    · simp only [List.mem_cons, qput_mem (Q := r)]
      constructor
      · rintro (h | h | h)
        · exact .inr (.inl h)
        · exact .inl h
        · exact .inr (.inr h)
      · rintro (h | h | h)
        · exact .inr (.inl h)
        · exact .inl h
        · exact .inr (.inr h)

theorem qput_sorted {f : Nat → Int} {i : Nat} : ∀ {Q : List Nat}, Q.Pairwise (fun a b => f b ≤ f a) → (qput f i Q).Pairwise (fun a b => f b ≤ f a)
  | [], _ => by simp [qput]
  | j :: r, h => by
    obtain ⟨h1, h2⟩ := List.pairwise_cons.1 h
    unfold qput
    split
    · rename_i hlt
      refine List.pairwise_cons.2 ⟨fun x hx => ?_, h⟩
      rcases List.mem_cons.1 hx with rfl | hx
      · omega
      · have := h1 x hx; omega
    · rename_i hlt
      refine List.pairwise_cons.2 ⟨fun x hx => ?_, qput_sorted h2⟩
      rcases qput_mem.1 hx with rfl | hx
      · omega
      · exact h1 x hx

theorem qput_nodup {f : Nat → Int} {i : Nat} : ∀ {Q : List Nat}, Q.Nodup → i ∉ Q → (qput f i Q).Nodup
  | [], _, _ => by simp [qput]
  | j :: r, h, hi => by
    obtain ⟨h1, h2⟩ := List.nodup_cons.1 h
    unfold qput
    split
    · exact List.nodup_cons.2 ⟨hi, h⟩
    · refine List.nodup_cons.2 ⟨fun hx => ?_, qput_nodup h2 fun hx => hi (List.mem_cons_of_mem _ hx)⟩
      rcases qput_mem.1 hx with rfl | hx
      · exact hi (by simp)
      · exact h1 hx

section
variable {dy : Nat → Nat} {f : Nat → Int} {n : Nat}

theorem qfold_ok {t : Nat} : ∀ (L : List Nat) (Q : List Nat), L.Nodup → Q.Nodup → Q.Pairwise (fun a b => f b ≤ f a) → (∀ i ∈ L, dy i = t → i ∉ Q) →
    (L.foldl (fun q i => if dy i = t then qput f i q else q) Q).Nodup ∧ (L.foldl (fun q i => if dy i = t then qput f i q else q) Q).Pairwise (fun a b => f b ≤ f a) ∧ ∀ x, x ∈ L.foldl (fun q i => if dy i = t then qput f i q else q) Q ↔ x ∈ Q ∨ (x ∈ L ∧ dy x = t)
  | [], Q, _, h1, h2, _ => ⟨h1, h2, fun x => by simp⟩
  | i :: L, Q, hL, h1, h2, h3 => by
    obtain ⟨hi, hL'⟩ := List.nodup_cons.1 hL
    simp only [List.foldl_cons]
    by_cases ht : dy i = t
    · rw [if_pos ht]
      have hiQ := h3 i (by simp) ht
      obtain ⟨a, b, c⟩ := qfold_ok L (qput f i Q) hL' (qput_nodup h1 hiQ) (qput_sorted h2) (fun j hj hjt hm => by
        rcases qput_mem.1 hm with rfl | hm
        · exact hi hj
        · exact h3 j (List.mem_cons_of_mem _ hj) hjt hm)
      refine ⟨a, b, fun x => ?_⟩
      rw [c x, qput_mem]
      constructor
      · rintro ((rfl | h) | ⟨h, h'⟩)
        · exact .inr ⟨by simp, ht⟩
        · exact .inl h
        · exact .inr ⟨List.mem_cons_of_mem _ h, h'⟩
      · rintro (h | ⟨h, h'⟩)
        · exact .inl (.inr h)
        · rcases List.mem_cons.1 h with rfl | h
          · exact .inl (.inl rfl)
          · exact .inr ⟨h, h'⟩
    · rw [if_neg ht]
      obtain ⟨a, b, c⟩ := qfold_ok L Q hL' h1 h2 (fun j hj => h3 j (List.mem_cons_of_mem _ hj))
      refine ⟨a, b, fun x => ?_⟩
      rw [c x]
      constructor
      · rintro (h | ⟨h, h'⟩)
        · exact .inl h
        · exact .inr ⟨List.mem_cons_of_mem _ h, h'⟩
      · rintro (h | ⟨h, h'⟩)
        · exact .inl h
        · rcases List.mem_cons.1 h with rfl | h
          · exact absurd h' ht
          · exact .inr ⟨h, h'⟩

/-- What can be done on the days up to t, by orders of Q and those that are due by then. -/
structure Fit (dy : Nat → Nat) (n t : Nat) (Q : List Nat) (T : Nat → Bool) : Prop where
  mem : ∀ i, i < n → T i = true → i ∈ Q ∨ dy i ≤ t
  day : ∀ d, d < t → by_ dy n T d ≤ d
  all : cnt T n ≤ t

/-- What waits. -/
structure Wt (dy : Nat → Nat) (f : Nat → Int) (n t : Nat) (Q : List Nat) : Prop where
  nd : Q.Nodup
  srt : Q.Pairwise (fun a b => f b ≤ f a)
  mem : ∀ i ∈ Q, i < n ∧ t < dy i

theorem qday_ok {t : Nat} {Q : List Nat} (h : Wt dy f n (t + 1) Q) : Wt dy f n t (qday dy f n (t + 1) Q) ∧ ∀ x, x ∈ qday dy f n (t + 1) Q ↔ x ∈ Q ∨ (x < n ∧ dy x = t + 1) := by
  obtain ⟨a, b, c⟩ := qfold_ok (dy := dy) (f := f) (t := t + 1) (List.range n) Q List.nodup_range h.nd h.srt (fun i hi ht hq => by have := (h.mem i hq).2; omega)
  refine ⟨⟨a, b, fun i hi => ?_⟩, fun x => by have := c x; rw [List.mem_range] at this; exact this⟩
  rcases (c i).1 hi with h' | ⟨h', h''⟩
  · have := h.mem i h'; exact ⟨this.1, by omega⟩
  · exact ⟨List.mem_range.1 h', by omega⟩

theorem ws_le {T : Nat → Bool} {i x : Nat} (hx : x < n) (hT : T x = true) (h : f x ≤ f i) : ws f T n ≤ f i + ws f (del T x) n := by
  have := ws_del f hx hT; omega

theorem by_del_le {T : Nat → Bool} (x d : Nat) : by_ dy n (del T x) d ≤ by_ dy n T d := by_le dy n (fun i _ hi => by simp only [del, Bool.and_eq_true] at hi; exact hi.1) d

theorem cnt_del1 {T : Nat → Bool} {x : Nat} (hx : x < n) (hT : T x = true) : cnt (del T x) n + 1 = cnt T n := by
  have := cnt_del hx hT (fun _ => true)
  simpa using this

theorem cnt_ins1 {T : Nat → Bool} {x : Nat} (hx : x < n) (hT : T x = false) : cnt (ins T x) n = cnt T n + 1 := by
  have := cnt_ins hx hT (fun _ => true)
  simpa using this

/-- NO SET CAN BE WORTH MORE. -/
theorem run_max (hf : ∀ i, i < n → 0 ≤ f i) : ∀ (t : Nat) (Q : List Nat) (T : Nat → Bool), Wt dy f n t Q → Fit dy n t Q T → ws f T n ≤ run dy f n t Q
  | 0, Q, T, hQ, hT => by
    have h0 : cnt T n = 0 := by have := hT.all; omega
    have hno : ∀ i, i < n → T i = false := fun i hi => by
      cases h : T i with
      | false => rfl
      | true =>
        exfalso
        have h1 := cnt_one T i n
        rw [if_pos ⟨hi, h⟩] at h1
        have h2 := cnt_le (p := fun j => T j && j == i) (q := T) (n := n) fun j _ hj => by simp only [Bool.and_eq_true] at hj; exact hj.1
        omega
    have : ws f T n = ws f (fun _ => false) n := ws_congr hno (fun i hi h => rfl)
    rw [this]
    have : ∀ m, ws f (fun _ => false) m = 0 := fun m => by
      induction m with
      | zero => rfl
      | succ m ih => simp only [ws, ih, cond_false]; rfl
    rw [this n]; exact Int.le_refl 0
  | t + 1, Q, T, hQ, hT => by
    obtain ⟨w1, w2⟩ := qday_ok hQ
    simp only [run]
    cases hq : qday dy f n (t + 1) Q with
    | nil =>
      simp only
      rw [hq] at w1 w2
      have hm : ∀ i, i < n → T i = true → dy i ≤ t := fun i hi hTi => by
        have h1 : ¬ (i ∈ Q ∨ (i < n ∧ dy i = t + 1)) := fun h => by have := (w2 i).2 h; simp at this
        rcases hT.mem i hi hTi with h | h
        · exact absurd (.inl h) h1
        · have : dy i ≠ t + 1 := fun e => h1 (.inr ⟨hi, e⟩)
          omega
      refine run_max hf t [] T ⟨.nil, .nil, fun i hi => by simp at hi⟩ ⟨fun i hi h => .inr (hm i hi h), fun d hd => hT.day d (by omega), ?_⟩
      have h1 := hT.day t (by omega)
      have h2 : by_ dy n T t = cnt T n := cnt_congr fun i hi => by
        cases h : T i with
        | false => rfl
        | true => simp [hm i hi h]
      omega
    | cons i r =>
      simp only
      rw [hq] at w1 w2
      have hi : i < n ∧ t < dy i := w1.mem i (by simp)
      obtain ⟨nd1, nd2⟩ := List.nodup_cons.1 w1.nd
      obtain ⟨s1, s2⟩ := List.pairwise_cons.1 w1.srt
      have hr : Wt dy f n t r := ⟨nd2, s2, fun j hj => w1.mem j (List.mem_cons_of_mem _ hj)⟩
      -- one is taken out
      have take : ∀ x, x < n → T x = true → f x ≤ f i → (∀ j, j < n → del T x j = true → j ∈ r ∨ dy j ≤ t) → ws f T n ≤ f i + run dy f n t r := fun x hx hTx hfx hm => by
        have h1 := ws_le hx hTx hfx
        have h2 := cnt_del1 hx hTx
        have h3 := hT.all
        have h4 := run_max hf t r (del T x) hr ⟨hm, fun d hd => Nat.le_trans (by_del_le x d) (hT.day d (by omega)), by omega⟩
        omega
      have inQ : ∀ j, j < n → T j = true → t < dy j → j = i ∨ j ∈ r := fun j hj hTj hd => by
        have : j ∈ i :: r := (w2 j).2 (by
          rcases hT.mem j hj hTj with h | h
          · exact .inl h
          · exact .inr ⟨hj, by omega⟩)
        simpa using this
      by_cases hTi : T i = true
      · exact take i hi.1 hTi (Int.le_refl _) fun j hj hdj => by
          simp only [del, Bool.and_eq_true, Bool.not_eq_true', beq_eq_false_iff_ne] at hdj
          by_cases hd : dy j ≤ t
          · exact .inr hd
          · rcases inQ j hj hdj.1 (by omega) with h | h
            · exact absurd h hdj.2
            · exact .inl h
      · by_cases hex : ∃ x, x < n ∧ T x = true ∧ t < dy x
        · obtain ⟨x, hx, hTx, hdx⟩ := hex
          have hxr : x ∈ r := by
            rcases inQ x hx hTx hdx with rfl | h
            · exact absurd hTx hTi
            · exact h
          exact take x hx hTx (s1 x hxr) fun j hj hdj => by
            simp only [del, Bool.and_eq_true, Bool.not_eq_true', beq_eq_false_iff_ne] at hdj
            by_cases hd : dy j ≤ t
            · exact .inr hd
            · rcases inQ j hj hdj.1 (by omega) with rfl | h
              · exact absurd hdj.1 hTi
              · exact .inl h
        · have hm : ∀ j, j < n → T j = true → dy j ≤ t := fun j hj hTj => Nat.le_of_not_lt fun h => hex ⟨j, hj, hTj, h⟩
          have h1 := hT.day t (by omega)
          have h2 : by_ dy n T t = cnt T n := cnt_congr fun j hj => by
            cases h : T j with
            | false => rfl
            | true => simp [hm j hj h]
          have h4 := run_max hf t r T hr ⟨fun j hj h => .inr (hm j hj h), fun d hd => hT.day d (by omega), by omega⟩
          have := hf i hi.1
          omega

/-- SOME SET IS WORTH AS MUCH. -/
theorem run_ex : ∀ (t : Nat) (Q : List Nat), Wt dy f n t Q → ∃ T, Fit dy n t Q T ∧ ws f T n = run dy f n t Q
  | 0, Q, hQ => by
    refine ⟨fun _ => false, ⟨fun i _ h => (by cases h), fun d hd => by omega, ?_⟩, ?_⟩
    · rw [cnt_zero fun i _ => rfl]; exact Nat.le_refl _
    · simp only [run]
      have : ∀ m, ws f (fun _ => false) m = 0 := fun m => by
        induction m with
        | zero => rfl
        | succ m ih => simp only [ws, ih, cond_false]; rfl
      exact this n
  | t + 1, Q, hQ => by
    obtain ⟨w1, w2⟩ := qday_ok hQ
    simp only [run]
    cases hq : qday dy f n (t + 1) Q with
    | nil =>
      simp only
      obtain ⟨T, h1, h2⟩ := run_ex t [] ⟨.nil, .nil, fun i hi => by simp at hi⟩
      have hm : ∀ i, i < n → T i = true → dy i ≤ t := fun i hi h => (h1.mem i hi h).resolve_left (by simp)
      refine ⟨T, ⟨fun i hi h => .inr (by have := hm i hi h; omega), fun d hd => ?_, by have := h1.all; omega⟩, h2⟩
      by_cases hd' : d < t
      · exact h1.day d hd'
      · obtain rfl : d = t := by omega
        have : by_ dy n T d ≤ cnt T n := cnt_le fun i _ hi => by simp only [Bool.and_eq_true] at hi; exact hi.1
        have := h1.all; omega
    | cons i r =>
      simp only
      rw [hq] at w1 w2
      have hi : i < n ∧ t < dy i := w1.mem i (by simp)
      obtain ⟨nd1, nd2⟩ := List.nodup_cons.1 w1.nd
      obtain ⟨s1, s2⟩ := List.pairwise_cons.1 w1.srt
      obtain ⟨T, h1, h2⟩ := run_ex t r ⟨nd2, s2, fun j hj => w1.mem j (List.mem_cons_of_mem _ hj)⟩
      have hTi : T i = false := by
        cases h : T i with
        | false => rfl
        | true =>
          exfalso
          rcases h1.mem i hi.1 h with h' | h'
          · exact nd1 h'
          · omega
      refine ⟨ins T i, ⟨fun j hj h => ?_, fun d hd => ?_, by rw [cnt_ins1 hi.1 hTi]; have := h1.all; omega⟩, by rw [ws_ins f hi.1 hTi, h2]; omega⟩
      · simp only [ins, Bool.or_eq_true, beq_iff_eq] at h
        have hin : ∀ x, x ∈ i :: r → x ∈ Q ∨ dy x ≤ t + 1 := fun x hx => ((w2 x).1 hx).imp id fun h => by omega
        rcases h with h | rfl
        · rcases h1.mem j hj h with h' | h'
          · exact hin j (List.mem_cons_of_mem _ h')
          · exact .inr (by omega)
        · exact hin j (by simp)
      · rw [by_ins hi.1 hTi, if_neg (by omega), Nat.add_zero]
        by_cases hd' : d < t
        · exact h1.day d hd'
        · obtain rfl : d = t := by omega
          have : by_ dy n T d ≤ cnt T n := cnt_le fun i _ hi => by simp only [Bool.and_eq_true] at hi; exact hi.1
          have := h1.all; omega

/-- From the last day on: the greatest sum of a possible set. -/
theorem run_opt (hf : ∀ i, i < n → 0 ≤ f i) {L : Nat} (hL : ∀ i, i < n → dy i ≤ L) : (∀ T, Pos dy n T → ws f T n ≤ run dy f n L []) ∧ ∃ T, Pos dy n T ∧ ws f T n = run dy f n L [] := by
  have hw : Wt dy f n L [] := ⟨.nil, .nil, fun i hi => by simp at hi⟩
  refine ⟨fun T hT => run_max hf L [] T hw ⟨fun i hi _ => .inr (hL i hi), fun d _ => hT d, ?_⟩, ?_⟩
  · have h1 := hT L
    have h2 : by_ dy n T L = cnt T n := cnt_congr fun i hi => by simp [hL i hi]
    omega
  · obtain ⟨T, h1, h2⟩ := run_ex L [] hw
    refine ⟨T, fun d => ?_, h2⟩
    by_cases hd : d < L
    · exact h1.day d hd
    · have h3 : by_ dy n T d ≤ cnt T n := cnt_le fun i _ hi => by simp only [Bool.and_eq_true] at hi; exact hi.1
      have := h1.all; omega
end

end Go.Proofs.Ytbblnbolabpfmaa
