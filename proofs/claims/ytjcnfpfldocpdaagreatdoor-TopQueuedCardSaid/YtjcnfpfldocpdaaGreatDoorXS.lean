/-
 Lifting Go functions to plain Lean functions, part Tg: labels to which one goes back (the scope of a function's body). Lifting Go functions to plain Lean functions, part Xs: slices.Sort, of the kit's shelf, as a contract. Lifting Go functions to plain Lean functions, part Xc: slices.Compact, of the kit's shelf, as a contract. Functions that are only run on examples: what is told of them is their reckoning itself.
-/
import Derived.Test.YtjcnfpfldocpdaaGreatDoorYD
import Derived.Sort.Grow
import Derived.Shelf.Sort.Plain
import Derived.Shelf.Slices.In.SortNone
import Derived.Ground.Names2Prog
import Derived.Shelf.Slices.CompactI
namespace Go.Proofs.YtjcnfpfldocpdaaGreatDoor
open Go.RowKit
set_option linter.unusedVariables false
open Go.RowKit

section
variable {P : Program} {α : Type}

def WS (F : Fence) (n : Nat) (P : Program) (x : Code) (Q : Exit → Act → World → Prop) : Nat → Code → Act → World → Prop
 | 0, _, _, _ => False
 | m + 1, c, a, w => c.wpIn F n P (fun e a' w' => match e with
  | .goto l => ∃ rest, findLabel x l = some rest ∧ WS F n P x Q m rest a' w'
  | e => Q e a' w') a w
theorem WS_arrives {F : Fence} {n : Nat} {x : Code} {Q : Exit → Act → World → Prop} : ∀ (m : Nat) (c : Code) (a : Act) (w : World), WS F n P x Q m c a w → ∀ (b : Go.Frame) (k : List Item) (cs : List Go.Frame), b.roundOf = F.round → F.fn b.fn → F.room (cs.length + 1 + n) →
  ∃ e a' w', Q e a' w' ∧ ArrivesIn (Machine.fenced P F) P (lone (b.atR a (.code c :: .inScope x :: k)) cs w) b k cs e a' w' := by
 intro m
 induction m with
 | zero => exact fun c a w h => h.elim
 | succ m ih =>
  intro c a w h b k cs hro hb hr
  obtain ⟨e, a₁, w₁, hq, harr⟩ := h b (.inScope x :: k) cs hro hb hr
  cases e with
  | normal => exact ⟨.normal, a₁, w₁, hq, StepsIn.trans harr (.one (fenced_calm hb hr rfl) stepR_inScope)⟩
  | exit id' =>
   have hx : exitTo id' (.inScope x :: k) = exitTo id' k := by simp [exitTo]
   exact ⟨.exit id', a₁, w₁, hq, fun k' hk => harr.1 k' (by rw [hx]; exact hk),
    fun hr' hk => let ⟨k₁, h1, h2⟩ := harr.2 hr' (by rw [hx]; exact hk); ⟨k₁, h1, h2⟩⟩
  | goto l =>
   obtain ⟨rest, h1, h2⟩ := hq
   obtain ⟨e, a₂, w₂, hq₂, harr₂⟩ := ih rest a₁ w₁ h2 b k cs hro hb hr
   exact ⟨e, a₂, w₂, hq₂, .of_steps (harr.1 _ (by simp [gotoIn, h1])) harr₂⟩
  | ret => exact ⟨_, a₁, w₁, hq, harr⟩
  | panic ch => exact ⟨_, a₁, w₁, hq, harr⟩
  | outgrown => exact ⟨_, a₁, w₁, hq, harr⟩
theorem wpIn_scopeG {F : Fence} {n : Nat} {Q : Exit → Act → World → Prop} {a : Act} {w : World} {x : Code} {m : Nat} (h : WS F n P x Q m x a w) : (Code.scope x).wpIn F n P Q a w := by
 intro b k cs hro hb hr
 have h0 : (lone (b.atR a (.code (.scope x) :: k)) cs w).fenced P F := fenced_calm hb hr rfl
 obtain ⟨e, a₁, w₁, hq, harr⟩ := WS_arrives m x a w h b k cs hro hb hr
 exact ⟨e, a₁, w₁, hq, .of_steps (.one h0 stepR_scope) harr⟩
def scopeN [Jn α] (E : Env) (lv : Nat → Option Norm) (N : Nat) (x : Code) (k : Kont α) : Nat → Code → TS → Option α
 | 0, _, _ => none
 | m + 1, c, s => denP E lv N c [] s fun e s' => match e with
  | .goto l => match findLabel x l with
   | some rest => scopeN E lv N x k m rest s'
   | none => none
  | e => k e s'
theorem scopeN_ok [Jn α] {E : Env} {c : Cx} {F : Nat → Prop} (hmix : P.follows .mixedOrders = true) (hT : TOK P E.TI) (hE : EnvOk P E) (hQ : SeqsOk P E.seq) {lv : Nat → Option Norm} (N : Nat) {x : Code} {k : Kont α} {r : α} (hpin : ∀ id p, c.pin id = some p → pinQ [] id = true) (hcx : CxOk c) : ∀ (m : Nat) (y : Code) (s : TS), scopeN E lv N x k m y s = some r → ∀ n a w, Rl c F s a w → WS c.fen n P x (fun e a' w' => ∃ s', KE k r e s' ∧ Rl c F s' a' w') m y a w := by
 intro m
 induction m with
 | zero => intro y s h; cases h
 | succ m ih =>
  intro y s h n a w hr
  refine wpIn_mono (denP_ok (c := c) (F := F) hmix hT hE hQ N y hpin hcx h n a w hr) fun e a' w' ⟨s', h1, h2⟩ => ?_
  cases e with
  | goto l =>
   simp only [KE] at h1
   split at h1
   ·rename_i rest hl; exact ⟨rest, hl, ih rest s' h1 n a' w' h2⟩
   ·cases h1
  | _ => exact ⟨s', h1, h2⟩
def denS [Jn α] (E : Env) (lv : Nat → Option Norm) (N : Nat) : Code → TS → Kont α → Option α
 | .seq a b, s, k => denS E lv N a s (kseq (denS E lv N b) k)
 | .scope a, s, k => scopeN E lv N a k N a s
 | c, s, k => denP E lv N c [] s k
theorem denS_ok [Jn α] {E : Env} {c : Cx} {F : Nat → Prop} (hmix : P.follows .mixedOrders = true) (hT : TOK P E.TI) (hE : EnvOk P E) (hQ : SeqsOk P E.seq) {lv : Nat → Option Norm} (N : Nat) (hpin : ∀ id p, c.pin id = some p → pinQ [] id = true) (hcx : CxOk c) : ∀ (x : Code) {s : TS} {k : Kont α} {r : α}, denS E lv N x s k = some r → PWP P c F x (KE k r) s := by
 intro x
 have base : ∀ (x : Code) {s : TS} {k : Kont α} {r : α}, denP E lv N x [] s k = some r → PWP P c F x (KE k r) s := fun x s k r h => denP_ok (c := c) (F := F) hmix hT hE hQ N x hpin hcx h
 induction x with
 | seq a b iha ihb =>
  intro s k r h
  refine pseq ((iha h).mono fun e s' q => ?_)
  cases e with
  | normal => exact ihb q
  | exit i => exact q
  | ret => exact q
  | goto i => exact q
  | panic c => cases q
  | outgrown => cases q
 | scope a iha =>
  intro s k r h n a' w' hr
  exact wpIn_scopeG (scopeN_ok hmix hT hE hQ N hpin hcx N a s h n a' w' hr)
 | _ => intro s k r h; exact base _ h
def callS [Jn α] (E : Env) (lv : Nat → Option Norm) (N : Nat) (en : End) (c : Code) (rs : List ResultVar) (nt : Nat) (args : List TV) (O : List (Nat × TO)) (dec : List TV → List (Nat × TO) → Option α) : Option α :=
 denS E lv N c ⟨args ++ List.replicate nt .any, O⟩ (fin E.TI en rs dec)
theorem callS_ok [Jn α] {E : Env} (hmix : P.follows .mixedOrders = true) (hT : TOK P E.TI) (hE : EnvOk P E) (hQ : SeqsOk P E.seq) {f : FuncId} {fn : Func} {x : Code} {rs : List ResultVar} {args : List TV} {O : List (Nat × TO)} {lv : Nat → Option Norm} {N nt : Nat} {en : End} {dec : List TV → List (Nat × TO) → Option α} {r : α}
  (hf : P.funcs[f]? = some fn) (hb : fn.body = some x) (hrs : fn.results = rs.toArray) (hname : (fn.name == "runtime.NumGoroutine") = false) (hn : fn.ntmps = args.length + nt) (hO : pinAll O = true)
  (h : callS E lv N en x rs nt args O dec = some r) : HSpec P f args O fun rv O' => ∃ l, rv = tupOf l ∧ dec l O' = some r := by
 simp only [pinAll, List.all_eq_true, Bool.and_eq_true] at hO
 have hpin0 : ∀ (c : Cx), (∀ id p, c.pin id = some p → ∃ o, tlook O id = some o) → ∀ id p, c.pin id = some p → pinR id = true := fun c hc id p hp => by
  obtain ⟨o, ho⟩ := hc id p hp
  exact (hO (id, o) (tlook_mem ho)).1
 refine HSpec.of (R := fun s l O' => FinR E.TI en rs s l O') hf hb (fun s l O' hR c hc F π a w hm => finR_ok hT (hpin0 c hc) hrs hR hm) hname hn (fun id o ho => by have := (hO (id, o) (tlook_mem ho)).2; simpa using this) fun c F hrnd hno hc => ?_
 have hpin := hpin0 c hc
 refine fun nn a w hr => wpIn_mono (denS_ok (c := c) (F := F) hmix hT hE hQ N (fun id p hp => by rw [pinQ, hpin id p hp, Bool.true_or]) ⟨hno, fun l e => by rw [hrnd] at e; cases e⟩ x h nn a w hr) fun e a' w' ⟨s', h1, h2⟩ => ?_
 have key : finS E.TI en rs dec s' = some r → ∃ l O', FinR E.TI en rs s' l O' ∧ ∃ l', tupOf l = tupOf l' ∧ dec l' O' = some r := fun h => by
  obtain ⟨l, O', q1, q2⟩ := finS_R h
  exact ⟨l, O', q1, l, rfl, q2⟩
 cases e with
 | normal => exact ⟨s', ⟨.inl rfl, key h1⟩, h2⟩
 | ret => exact ⟨s', ⟨.inr rfl, key h1⟩, h2⟩
 | exit i => cases h1
 | goto i => cases h1
 | panic c => cases h1
 | outgrown => cases h1
end
open Go.RowKit

theorem turned {w w' : World} {g q : Nat} {d : Array Int} {n : Nat} {os : Array Obj} {cur : Array Value} {e : TypeId} (h : w' = Go.Sort.grow (Go.Sort.putRow (Value.int .i64) (Go.Sort.ahead w n) g q d) os) (hg0 : Blk w g cur e) :
  Blk w' g (Go.Sort.putCells (Value.int .i64) q d cur) e ∧ (∀ b, b ≠ g → b < w.heap.size → w'.heap[b]? = w.heap[b]?) ∧ w.heap.size ≤ w'.heap.size ∧ w'.os = w.os ∧ w'.tape = w.tape ∧ w'.output = w.output := by
 subst h
 obtain ⟨z, hg, hz⟩ := hg0
 have hlt := (Array.getElem?_eq_some_iff.1 hg).1
 refine ⟨⟨z, ?_, by rcases hz with hz | hz; exact .inl hz; exact .inr ⟨hz.1, by simpa [Go.Sort.putCells] using hz.2⟩⟩, fun b hb hs => ?_, ?_, rfl, rfl, rfl⟩
 ·simp only [Go.Sort.grow, Go.Sort.putRow, Go.Sort.mapBlock, Go.Sort.ahead]
  rw [Array.getElem?_append_left (by simpa using hlt), Array.getElem?_modify, if_pos rfl, hg]
  rfl
 ·simp only [Go.Sort.grow, Go.Sort.putRow, Go.Sort.mapBlock, Go.Sort.ahead]
  rw [Array.getElem?_append_left (by simpa using hs), Array.getElem?_modify, if_neg (fun e => hb e.symm)]
 ·simp [Go.Sort.grow, Go.Sort.putRow, Go.Sort.mapBlock, Go.Sort.ahead]
open Go.RowKit

open Go.RowKit

section
variable {β : Type}
def fN (n : Nat) (k : Nat → β) : β := match n with
 | 0 => k 0
 | m + 1 => k (m + 1)
theorem fN_eq (n : Nat) (k : Nat → β) : fN n k = k n := by cases n <;> rfl
def fZ (z : Int) (k : Int → β) : β := match z with
 | .ofNat n => fN n fun n => k (.ofNat n)
 | .negSucc n => fN n fun n => k (.negSucc n)
theorem fZ_eq (z : Int) (k : Int → β) : fZ z k = k z := by
 cases z with
 | ofNat n => exact fN_eq n fun n => k (.ofNat n)
 | negSucc n => exact fN_eq n fun n => k (.negSucc n)
def fB (b : Bool) (k : Bool → β) : β := match b with
 | true => k true
 | false => k false
theorem fB_eq (b : Bool) (k : Bool → β) : fB b k = k b := by cases b <;> rfl
def fL {α : Type} (f : α → (α → β) → β) : List α → (List α → β) → β
 | [], k => k []
 | x :: r, k => f x fun x => fL f r fun r => k (x :: r)
theorem fL_eq {α : Type} {f : α → (α → β) → β} (h : ∀ x k, f x k = k x) : ∀ (l : List α) (k : List α → β), fL f l k = k l
 | [], k => rfl
 | x :: r, k => by rw [fL, h, fL_eq h r]
def fD : (t : DT) → t.den → (t.den → β) → β
 | .int _, z, k => fZ z k
 | .bool, b, k => fB b k
 | .sl t, l, k => fL (fD t) l k
 | .csl t, l, k => fL (fD t) l k
 | .arr _ t, l, k => fL (fD t) l k
 | .nsl t, o, k => match o with
  | none => k none
  | some l => fL (fD t) l fun l => k (some l)
 | .pair a b, p, k => fD a p.1 fun x => fD b p.2 fun y => k (x, y)
 | _, y, k => k y
theorem fD_eq : ∀ (t : DT) (y : t.den) (k : t.den → β), fD t y k = k y := by
 intro t
 induction t with
 | int _ => exact fun y k => fZ_eq y k
 | bool => exact fun y k => fB_eq y k
 | sl t ih => exact fun y k => fL_eq ih y k
 | csl t ih => exact fun y k => fL_eq ih y k
 | arr n t ih => exact fun y k => fL_eq ih y k
 | nsl t ih =>
  intro y k
  cases y with
  | none => rfl
  | some l => exact fL_eq ih l _
 | pair a b iha ihb =>
  intro y k
  show fD a y.1 _ = _
  rw [iha, ihb]
 | _ => exact fun y k => rfl
def fT (x : TV) (k : TV → β) : β := match x with
 | .dv t y => fD t y fun y => k (.dv t y)
 | .row id => fN id fun id => k (.row id)
 | .el t y p => fD t y fun y => fL fN p fun p => k (.el t y p)
 | .ptr id i p => fN id fun id => fN i fun i => fL fN p fun p => k (.ptr id i p)
 | x => k x
theorem fT_eq (x : TV) (k : TV → β) : fT x k = k x := by
 cases x <;> simp only [fT, fD_eq, fN_eq, fL_eq fN_eq]
def fO (o : TO) (k : TO → β) : β := match o with
 | .row t l => fL (fD t) l fun l => k (.row t l)
 | .rcd fs => fL fT fs fun fs => k (.rcd fs)
 | o => k o
theorem fO_eq (o : TO) (k : TO → β) : fO o k = k o := by
 cases o with
 | row t l => exact fL_eq (fD_eq t) l _
 | rcd fs => exact fL_eq fT_eq fs _
 | _ => rfl
def fP (p : Nat × TO) (k : Nat × TO → β) : β := fN p.1 fun i => fO p.2 fun o => k (i, o)
theorem fP_eq (p : Nat × TO) (k : Nat × TO → β) : fP p k = k p := by rw [fP, fN_eq, fO_eq]
end
def decG (l : List TV) (o : List (Nat × TO)) : Option (List TV × List (Nat × TO)) := fL fT l fun l => fL fP o fun o => some (l, o)
theorem decG_eq (l : List TV) (o : List (Nat × TO)) : decG l o = some (l, o) := by rw [decG, fL_eq fT_eq, fL_eq fP_eq]
noncomputable def gn (fn : Func) (L : List (Nat × FnC)) (rc : Nat → Option (List (Option DT))) (fz : Nat → Bool) (lv : List (Nat × Norm)) (en : End) (nt : Nat) (sg : List TV → Option (List Md)) : FnC where
 ρ := List TV × List (Nat × TO)
 sig := sg
 ans := fun l o => fL fT l fun l => fL fP o fun o => cond (l.length + nt == fn.ntmps && pinAll o) (callF (mkE TI TY L rc fz) (norms lv) 60 en (bodyOf fn) (resOf fn) nt l o decG) none
 enc := fun _ _ r => tupOf r.1
 obs := fun _ _ r => r.2
def AllOk : List (Nat × FnC) → Prop
 | [] => True
 | p :: r => FnOk Tryz.prog p.1 p.2 ∧ AllOk r
theorem AllOk.at : ∀ {L : List (Nat × FnC)}, AllOk L → ∀ p ∈ L, FnOk Tryz.prog p.1 p.2
 | _ :: _, h, p, hp => by
  rcases List.mem_cons.1 hp with rfl | hp
  ·exact h.1
  ·exact h.2.at p hp
theorem gn_ok {f : Nat} {fn : Func} {L : List (Nat × FnC)} {rc : Nat → Option (List (Option DT))} {fz : Nat → Bool} {lv : List (Nat × Norm)} {en : End} {nt : Nat} {sg : List TV → Option (List Md)}
  (hf : Tryz.prog.funcs[f]? = some fn) (hb : fn.body.isSome = true) (hname : (fn.name == "runtime.NumGoroutine") = false) (hL : AllOk L) : FnOk Tryz.prog f (gn fn L rc fz lv en nt sg) := by
 intro args Of x hx
 have h0 : (fL fT args fun l => fL fP Of fun o => cond (l.length + nt == fn.ntmps && pinAll o) (callF (mkE TI TY L rc fz) (norms lv) 60 en (bodyOf fn) (resOf fn) nt l o decG) none) = some x := hx
 rw [fL_eq fT_eq, fL_eq fP_eq] at h0
 cases hc : (args.length + nt == fn.ntmps && pinAll Of) with
 | false => rw [hc] at h0; cases h0
 | true =>
  rw [hc, cond_true] at h0
  simp only [Bool.and_eq_true, beq_iff_eq] at hc
  refine (callF_ok hmix tok (envOk_of hL.at) (seqsOk_none _) hf (body_of hb) (res_of fn) hname hc.1.symm hc.2 h0).mono fun rv o ⟨l, e1, e2⟩ => ?_
  rw [decG_eq] at e2; obtain rfl := Option.some.inj e2
  exact ⟨e1, rfl⟩
noncomputable def gs (fn : Func) (L : List (Nat × FnC)) (rc : Nat → Option (List (Option DT))) (fz : Nat → Bool) (lv : List (Nat × Norm)) (en : End) (nt : Nat) (sg : List TV → Option (List Md)) : FnC where
 ρ := List TV × List (Nat × TO)
 sig := sg
 ans := fun l o => fL fT l fun l => fL fP o fun o => cond (l.length + nt == fn.ntmps && pinAll o) (callS (mkE TI TY L rc fz) (norms lv) 60 en (bodyOf fn) (resOf fn) nt l o decG) none
 enc := fun _ _ r => tupOf r.1
 obs := fun _ _ r => r.2
theorem gs_ok {f : Nat} {fn : Func} {L : List (Nat × FnC)} {rc : Nat → Option (List (Option DT))} {fz : Nat → Bool} {lv : List (Nat × Norm)} {en : End} {nt : Nat} {sg : List TV → Option (List Md)}
   (hf : Tryz.prog.funcs[f]? = some fn) (hb : fn.body.isSome = true) (hname : (fn.name == "runtime.NumGoroutine") = false) (hL : AllOk L) : FnOk Tryz.prog f (gs fn L rc fz lv en nt sg) := by
 intro args Of x hx
 have h0 : (fL fT args fun l => fL fP Of fun o => cond (l.length + nt == fn.ntmps && pinAll o) (callS (mkE TI TY L rc fz) (norms lv) 60 en (bodyOf fn) (resOf fn) nt l o decG) none) = some x := hx
 rw [fL_eq fT_eq, fL_eq fP_eq] at h0
 cases hc : (args.length + nt == fn.ntmps && pinAll Of) with
 | false => rw [hc] at h0; cases h0
 | true =>
   rw [hc, cond_true] at h0
   simp only [Bool.and_eq_true, beq_iff_eq] at hc
   refine (callS_ok hmix tok (envOk_of hL.at) (seqsOk_none _) hf (body_of hb) (res_of fn) hname hc.1.symm hc.2 h0).mono fun rv o ⟨l, e1, e2⟩ => ?_
   rw [decG_eq] at e2; obtain rfl := Option.some.inj e2
   exact ⟨e1, rfl⟩
end Go.Proofs.YtjcnfpfldocpdaaGreatDoor
