/-

-/
import Derived.Test.YtfopcfnggdonkaaDoorYD
namespace Go.Proofs.YtfopcfnggdonkaaDoor
open Go.RowKit
set_option linter.unusedVariables false
abbrev Cd := Int × List (List Int) × Unit
abbrev Y10 := Cd → (List Int) → Option (List Int)
def F10 (a : Y10) : FnC := { ρ := List Int, sig := fun _ => some [.lend (.pair (.int .i64) (.pair (.sl (.sl (.int .i64))) (.unit))), .lend (.sl (.int .i64))], ans := fun l o => (match l, o with | [.dv (.pair (.int .i64) (.pair (.sl (.sl (.int .i64))) (.unit))) cx0, .dv (.sl (.int .i64)) lx1], [] => a cx0 lx1 | _, _ => none), enc := fun _ _ r => .dv (.arr 8 (.int .u8)) r, obs := fun _ _ r => [] }
abbrev Y11 := Int → Int → Int → Option (Bool)
def F11 (a : Y11) : FnC := { ρ := Bool, sig := fun _ => some [.lend (.int .i64), .lend (.int .i64), .lend (.int .i64)], ans := fun l o => (match l, o with | [.dv (.int .i64) lo0, .dv (.int .i64) n1, .dv (.int .i64) hi2], [] => a lo0 n1 hi2 | _, _ => none), enc := fun _ _ r => .dv (.bool) r, obs := fun _ _ r => [] }
abbrev Y12 := (Int × List Int × Bool × Unit) → Option (List Int)
def F12 (a : Y12) : FnC := { ρ := List Int, sig := fun _ => some [.own (.pair (.int .i64) (.pair (.sl (.int .i64)) (.pair (.bool) (.unit))))], ans := fun l o => (match l, o with | [.dv (.pair (.int .i64) (.pair (.sl (.int .i64)) (.pair (.bool) (.unit)))) s0], [] => a s0 | _, _ => none), enc := fun _ _ r => .dv (.sl (.int .i64)) r, obs := fun _ _ r => [] }
abbrev Y14 := Int → Int → Int → Option (Bool)
def F14 (a : Y14) : FnC := { ρ := Bool, sig := fun _ => some [.lend (.int .i64), .lend (.int .i64), .lend (.int .i64)], ans := fun l o => (match l, o with | [.dv (.int .i64) lo0, .dv (.int .i64) n1, .dv (.int .i64) hi2], [] => a lo0 n1 hi2 | _, _ => none), enc := fun _ _ r => .dv (.bool) r, obs := fun _ _ r => [] }
abbrev Y15 := Cd → Option (Int)
def F15 (a : Y15) : FnC := { ρ := Int, sig := fun _ => some [.lend (.pair (.int .i64) (.pair (.sl (.sl (.int .i64))) (.unit)))], ans := fun l o => (match l, o with | [.dv (.pair (.int .i64) (.pair (.sl (.sl (.int .i64))) (.unit))) cx0], [] => a cx0 | _, _ => none), enc := fun _ _ r => .dv (.int .i64) r, obs := fun _ _ r => [] }
abbrev Y16c17 := (List (List Int)) → (List Cd) → Option (Bool × List Cd)
def F16c17 (a : Y16c17) : FnC := { ρ := Bool × List Cd, sig := fun l => (match l with | [_, .fn 17 _ _ _] => some [.own (.sl (.sl (.int .i64))), .obj] | _ => none), ans := fun l o => (match l, o, capsOf l o with | [.dv (.sl (.sl (.int .i64))) s0, .fn 17 0 1 _], [(9000, .row (.pair (.int .i64) (.pair (.sl (.sl (.int .i64))) (.unit))) p1)], [[.ptr 9000 0 []]] => a s0 p1 | _, _, _ => none), enc := fun _ _ r => .dv (.bool) r.1, obs := fun _ _ r => [(9000, .row (.pair (.int .i64) (.pair (.sl (.sl (.int .i64))) (.unit))) r.2)] }
abbrev Y17c := (List Int) → (List Cd) → Option (Bool × List Cd)
def F17c (a : Y17c) : FnC := { ρ := Bool × List Cd, sig := fun _ => some [.own (.sl (.int .i64)), .obj], ans := fun l o => (match l, o with | [.dv (.sl (.int .i64)) wx0, .ptr 9000 0 []], [(9000, .row (.pair (.int .i64) (.pair (.sl (.sl (.int .i64))) (.unit))) p1)] => a wx0 p1 | _, _ => none), enc := fun _ _ r => .dv (.bool) r.1, obs := fun _ _ r => [(9000, .row (.pair (.int .i64) (.pair (.sl (.sl (.int .i64))) (.unit))) r.2)] }
abbrev Y18 := Cd → (List Int) → Option (Int)
def F18 (a : Y18) : FnC := { ρ := Int, sig := fun _ => some [.lend (.pair (.int .i64) (.pair (.sl (.sl (.int .i64))) (.unit))), .lend (.sl (.int .i64))], ans := fun l o => (match l, o with | [.dv (.pair (.int .i64) (.pair (.sl (.sl (.int .i64))) (.unit))) cx0, .dv (.sl (.int .i64)) wx1], [] => a cx0 wx1 | _, _ => none), enc := fun _ _ r => .dv (.int .i64) r, obs := fun _ _ r => [] }
abbrev Y19 := (List (List Int)) → Option (List Int)
def F19 (a : Y19) : FnC := { ρ := List Int, sig := fun _ => some [.lend (.sl (.sl (.int .i64)))], ans := fun l o => (match l, o with | [.dv (.sl (.sl (.int .i64))) words0], [] => a words0 | _, _ => none), enc := fun _ _ r => .dv (.arr 8 (.int .u8)) r, obs := fun _ _ r => [] }
abbrev Y20 := (List Int) → Int → Option (Bool)
def F20 (a : Y20) : FnC := { ρ := Bool, sig := fun _ => some [.lend (.sl (.int .i64)), .lend (.int .i64)], ans := fun l o => (match l, o with | [.dv (.sl (.int .i64)) s0, .dv (.int .i64) v1], [] => a s0 v1 | _, _ => none), enc := fun _ _ r => .dv (.bool) r, obs := fun _ _ r => [] }
abbrev Y24 := (Option (List Int)) → Option (List Int)
def F24 (a : Y24) : FnC := { ρ := List Int, sig := fun _ => some [.own (.nsl (.int .i64))], ans := fun l o => (match l, o with | [.dv (.nsl (.int .i64)) s0], [] => a s0 | _, _ => none), enc := fun _ _ r => .dv (.sl (.int .i64)) r, obs := fun _ _ r => [] }
abbrev Y27c17 := (List (List Int)) → (List Cd) → Option (Int × List Cd)
def F27c17 (a : Y27c17) : FnC := { ρ := Int × List Cd, sig := fun l => (match l with | [_, .fn 17 _ _ _] => some [.own (.sl (.sl (.int .i64))), .obj] | _ => none), ans := fun l o => (match l, o, capsOf l o with | [.dv (.sl (.sl (.int .i64))) s0, .fn 17 0 1 _], [(9000, .row (.pair (.int .i64) (.pair (.sl (.sl (.int .i64))) (.unit))) p1)], [[.ptr 9000 0 []]] => a s0 p1 | _, _, _ => none), enc := fun _ _ r => .dv (.int .i64) r.1, obs := fun _ _ r => [(9000, .row (.pair (.int .i64) (.pair (.sl (.sl (.int .i64))) (.unit))) r.2)] }
abbrev Y28c29 := (List Int) → (List Cd) → Option (Bool × List Cd)
def F28c29 (a : Y28c29) : FnC := { ρ := Bool × List Cd, sig := fun l => (match l with | [_, .fn 29 _ _ _] => some [.own (.sl (.int .i64)), .obj] | _ => none), ans := fun l o => (match l, o, capsOf l o with | [.dv (.sl (.int .i64)) s0, .fn 29 0 1 _], [(9000, .row (.pair (.int .i64) (.pair (.sl (.sl (.int .i64))) (.unit))) p1)], [[.ptr 9000 0 []]] => a s0 p1 | _, _, _ => none), enc := fun _ _ r => .dv (.bool) r.1, obs := fun _ _ r => [(9000, .row (.pair (.int .i64) (.pair (.sl (.sl (.int .i64))) (.unit))) r.2)] }
abbrev Y29c := Int → (List Cd) → Option (Bool × List Cd)
def F29c (a : Y29c) : FnC := { ρ := Bool × List Cd, sig := fun _ => some [.own (.int .i64), .obj], ans := fun l o => (match l, o with | [.dv (.int .i64) mx0, .ptr 9000 0 []], [(9000, .row (.pair (.int .i64) (.pair (.sl (.sl (.int .i64))) (.unit))) p1)] => a mx0 p1 | _, _ => none), enc := fun _ _ r => .dv (.bool) r.1, obs := fun _ _ r => [(9000, .row (.pair (.int .i64) (.pair (.sl (.sl (.int .i64))) (.unit))) r.2)] }
abbrev Y3 := (List (List Int)) → Option (Bool)
def F3 (a : Y3) : FnC := { ρ := Bool, sig := fun _ => some [.lend (.arr 3 (.arr 5 (.int .u8)))], ans := fun l o => (match l, o with | [.dv (.arr 3 (.arr 5 (.int .u8))) words0], [] => a words0 | _, _ => none), enc := fun _ _ r => .dv (.bool) r, obs := fun _ _ r => [] }
abbrev Y30 := (List Int) → Int → Option (Int)
def F30 (a : Y30) : FnC := { ρ := Int, sig := fun _ => some [.lend (.sl (.int .i64)), .lend (.int .i64)], ans := fun l o => (match l, o with | [.dv (.sl (.int .i64)) s0, .dv (.int .i64) v1], [] => a s0 v1 | _, _ => none), enc := fun _ _ r => .dv (.int .i64) r, obs := fun _ _ r => [] }
abbrev Y31 := (List Int) → Int → Option (List Int × Bool)
def F31 (a : Y31) : FnC := { ρ := List Int × Bool, sig := fun _ => some [.lend (.sl (.int .i64)), .lend (.int .i64)], ans := fun l o => (match l, o with | [.dv (.sl (.int .i64)) chain0, .dv (.int .i64) n1], [] => a chain0 n1 | _, _ => none), enc := fun _ _ r => .tup 2 fun i => ([.dv (.arr 2 (.int .i64)) r.1, .dv (.bool) r.2] : List TV).getD i .any, obs := fun _ _ r => [] }
abbrev Y37c29 := (List Int) → (List Cd) → Option (Int × List Cd)
def F37c29 (a : Y37c29) : FnC := { ρ := Int × List Cd, sig := fun l => (match l with | [_, .fn 29 _ _ _] => some [.own (.sl (.int .i64)), .obj] | _ => none), ans := fun l o => (match l, o, capsOf l o with | [.dv (.sl (.int .i64)) s0, .fn 29 0 1 _], [(9000, .row (.pair (.int .i64) (.pair (.sl (.sl (.int .i64))) (.unit))) p1)], [[.ptr 9000 0 []]] => a s0 p1 | _, _, _ => none), enc := fun _ _ r => .dv (.int .i64) r.1, obs := fun _ _ r => [(9000, .row (.pair (.int .i64) (.pair (.sl (.sl (.int .i64))) (.unit))) r.2)] }
abbrev Y38 := (List Int) → Int → Option (Int × Bool)
def F38 (a : Y38) : FnC := { ρ := Int × Bool, sig := fun _ => some [.lend (.sl (.int .i64)), .lend (.int .i64)], ans := fun l o => (match l, o with | [.dv (.sl (.int .i64)) x0, .dv (.int .i64) target1], [] => a x0 target1 | _, _ => none), enc := fun _ _ r => .tup 2 fun i => ([.dv (.int .i64) r.1, .dv (.bool) r.2] : List TV).getD i .any, obs := fun _ _ r => [] }
abbrev Y4 := Cd → (List Int) → Option (Int × Int)
def F4 (a : Y4) : FnC := { ρ := Int × Int, sig := fun _ => some [.lend (.pair (.int .i64) (.pair (.sl (.sl (.int .i64))) (.unit))), .lend (.sl (.int .i64))], ans := fun l o => (match l, o with | [.dv (.pair (.int .i64) (.pair (.sl (.sl (.int .i64))) (.unit))) cx0, .dv (.sl (.int .i64)) coalition1], [] => a cx0 coalition1 | _, _ => none), enc := fun _ _ r => .tup 2 fun i => ([.dv (.int .i64) r.1, .dv (.int .i64) r.2] : List TV).getD i .any, obs := fun _ _ r => [] }
abbrev Y5 := Int → Option (Int × Int)
def F5 (a : Y5) : FnC := { ρ := Int × Int, sig := fun _ => some [.lend (.int .i64)], ans := fun l o => (match l, o with | [.dv (.int .i64) n0], [] => a n0 | _, _ => none), enc := fun _ _ r => .tup 2 fun i => ([.dv (.int .i64) r.1, .dv (.int .i64) r.2] : List TV).getD i .any, obs := fun _ _ r => [] }
abbrev Y52 := Int → Int → Option (Bool)
def F52 (a : Y52) : FnC := { ρ := Bool, sig := fun _ => some [.lend (.int .i64), .lend (.int .i64)], ans := fun l o => (match l, o with | [.dv (.int .i64) x0, .dv (.int .i64) y1], [] => a x0 y1 | _, _ => none), enc := fun _ _ r => .dv (.bool) r, obs := fun _ _ r => [] }
abbrev Y53 := Int → Option (Bool)
def F53 (a : Y53) : FnC := { ρ := Bool, sig := fun _ => some [.lend (.int .i64)], ans := fun l o => (match l, o with | [.dv (.int .i64) x0], [] => a x0 | _, _ => none), enc := fun _ _ r => .dv (.bool) r, obs := fun _ _ r => [] }
abbrev Y6 := Int → Option (List Int × Int)
def F6 (a : Y6) : FnC := { ρ := List Int × Int, sig := fun _ => some [.own (.int .i64)], ans := fun l o => (match l, o with | [.dv (.int .i64) n0], [] => a n0 | _, _ => none), enc := fun _ _ r => .tup 2 fun i => ([.dv (.sl (.int .i64)) r.1, .dv (.int .i64) r.2] : List TV).getD i .any, obs := fun _ _ r => [] }
abbrev Y65 := Int → Option (Bool)
def F65 (a : Y65) : FnC := { ρ := Bool, sig := fun _ => some [.lend (.int .i64)], ans := fun l o => (match l, o with | [.dv (.int .i64) x0], [] => a x0 | _, _ => none), enc := fun _ _ r => .dv (.bool) r, obs := fun _ _ r => [] }
abbrev Y7 := Option (Bool)
def F7 (a : Y7) : FnC := { ρ := Bool, sig := fun _ => some [], ans := fun l o => (match l, o with | [], [] => a | _, _ => none), enc := fun _ _ r => .dv (.bool) r, obs := fun _ _ r => [] }
abbrev Y8 := Cd → Option (Int)
def F8 (a : Y8) : FnC := { ρ := Int, sig := fun _ => some [.lend (.pair (.int .i64) (.pair (.sl (.sl (.int .i64))) (.unit)))], ans := fun l o => (match l, o with | [.dv (.pair (.int .i64) (.pair (.sl (.sl (.int .i64))) (.unit))) cx0], [] => a cx0 | _, _ => none), enc := fun _ _ r => .dv (.int .i64) r, obs := fun _ _ r => [] }
abbrev Y9 := Cd → (List Int) → Option (Int)
def F9 (a : Y9) : FnC := { ρ := Int, sig := fun _ => some [.lend (.pair (.int .i64) (.pair (.sl (.sl (.int .i64))) (.unit))), .lend (.sl (.int .i64))], ans := fun l o => (match l, o with | [.dv (.pair (.int .i64) (.pair (.sl (.sl (.int .i64))) (.unit))) cx0, .dv (.sl (.int .i64)) lx1], [] => a cx0 lx1 | _, _ => none), enc := fun _ _ r => .dv (.int .i64) r, obs := fun _ _ r => [] }
end Go.Proofs.YtfopcfnggdonkaaDoor
