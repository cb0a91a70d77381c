/-

-/
import Derived.Test.YtjcnfpfldocpdaaGreatDoorYD
namespace Go.Proofs.YtjcnfpfldocpdaaGreatDoor
open Go.RowKit
set_option linter.unusedVariables false
abbrev Tq := List (Int × Int × Unit)
abbrev Tr := Int × Int × Unit
abbrev Ti := List Int
abbrev Y10 := Tq → Option (Int × Int)
def F10 (a : Y10) : FnC := { ρ := Int × Int, sig := fun _ => some [.lend (.sl (.pair (.int .i64) (.pair (.int .i64) (.unit))))], ans := fun l o => (match l, o with | [.dv (.sl (.pair (.int .i64) (.pair (.int .i64) (.unit)))) lx0], [] => a lx0 | _, _ => none), enc := fun _ _ r => .tup 2 fun i => ([.dv (.int .i64) r.1, .dv (.int .i64) r.2] : List TV).getD i .any, obs := fun _ _ r => [] }
abbrev Y11 := Tq → Ti → Option (Int)
def F11 (a : Y11) : FnC := { ρ := Int, sig := fun _ => some [.lend (.sl (.pair (.int .i64) (.pair (.int .i64) (.unit)))), .lend (.sl (.int .i64))], ans := fun l o => (match l, o with | [.dv (.sl (.pair (.int .i64) (.pair (.int .i64) (.unit)))) lx0, .dv (.sl (.int .i64)) plan1], [] => a lx0 plan1 | _, _ => none), enc := fun _ _ r => .dv (.int .i64) r, obs := fun _ _ r => [] }
abbrev Y12 := Option (Bool)
def F12 (a : Y12) : FnC := { ρ := Bool, sig := fun _ => some [], ans := fun l o => (match l, o with | [], [] => a | _, _ => none), enc := fun _ _ r => .dv (.bool) r, obs := fun _ _ r => [] }
abbrev Y20 := (List Ti) → Int → Option (Int × Int)
def F20 (a : Y20) : FnC := { ρ := Int × Int, sig := fun _ => some [.lend (.sl (.sl (.int .i64))), .lend (.int .i64)], ans := fun l o => (match l, o with | [.dv (.sl (.sl (.int .i64))) work0, .dv (.int .i64) seats1], [] => a work0 seats1 | _, _ => none), enc := fun _ _ r => .tup 2 fun i => ([.dv (.int .i64) r.1, .dv (.int .i64) r.2] : List TV).getD i .any, obs := fun _ _ r => [] }
abbrev Y21 := (List Ti) → Int → Int → Option (List Ti)
def F21 (a : Y21) : FnC := { ρ := List Ti, sig := fun _ => some [.lend (.sl (.sl (.int .i64))), .lend (.int .i64), .lend (.int .i64)], ans := fun l o => (match l, o with | [.dv (.sl (.sl (.int .i64))) work0, .dv (.int .i64) seats1, .dv (.int .i64) length2], [] => a work0 seats1 length2 | _, _ => none), enc := fun _ _ r => .row 1500, obs := fun _ _ r => [(1500, .mat (.int .i64) r none)] }
abbrev Y22 := (List Ti) → Option Ti
def F22 (a : Y22) : FnC := { ρ := List Int, sig := fun _ => some [.lend (.sl (.sl (.int .i64)))], ans := fun l o => (match l, o with | [.dv (.sl (.sl (.int .i64))) s0], [] => a s0 | _, _ => none), enc := fun _ _ r => .row 1500, obs := fun _ _ r => [(1500, .row (.int .i64) r)] }
abbrev Y3 := Ti → Ti → Option (Bool)
def F3 (a : Y3) : FnC := { ρ := Bool, sig := fun _ => some [.lend (.sl (.int .u8)), .lend (.sl (.int .u8))], ans := fun l o => (match l, o with | [.dv (.sl (.int .u8)) days0, .dv (.sl (.int .u8)) fines1], [] => a days0 fines1 | _, _ => none), enc := fun _ _ r => .dv (.bool) r, obs := fun _ _ r => [] }
abbrev Y31 := (List Ti) → Option (List Int × List Int)
def F31 (a : Y31) : FnC := { ρ := List Int × List Int, sig := fun _ => some [.lend (.sl (.sl (.int .i64)))], ans := fun l o => (match l, o with | [.dv (.sl (.sl (.int .i64))) work0], [] => a work0 | _, _ => none), enc := fun _ _ r => .tup 2 fun i => ([.row 1500, .row 1501] : List TV).getD i .any, obs := fun _ _ r => [(1500, .row (.int .i64) r.1), (1501, .row (.int .i64) r.2)] }
abbrev Y33 := Tq → Option (Int)
def F33 (a : Y33) : FnC := { ρ := Int, sig := fun _ => some [.lend (.sl (.pair (.int .i64) (.pair (.int .i64) (.unit))))], ans := fun l o => (match l, o with | [.dv (.sl (.pair (.int .i64) (.pair (.int .i64) (.unit)))) lx0], [] => a lx0 | _, _ => none), enc := fun _ _ r => .dv (.int .i64) r, obs := fun _ _ r => [] }
abbrev Y34 := Int → Int → Int → Option (Bool)
def F34 (a : Y34) : FnC := { ρ := Bool, sig := fun _ => some [.lend (.int .i64), .lend (.int .i64), .lend (.int .i64)], ans := fun l o => (match l, o with | [.dv (.int .i64) lo0, .dv (.int .i64) n1, .dv (.int .i64) hi2], [] => a lo0 n1 hi2 | _, _ => none), enc := fun _ _ r => .dv (.bool) r, obs := fun _ _ r => [] }
abbrev Y35 := Ti → Int → Option (Bool)
def F35 (a : Y35) : FnC := { ρ := Bool, sig := fun _ => some [.lend (.sl (.int .i64)), .lend (.int .i64)], ans := fun l o => (match l, o with | [.dv (.sl (.int .i64)) s0, .dv (.int .i64) v1], [] => a s0 v1 | _, _ => none), enc := fun _ _ r => .dv (.bool) r, obs := fun _ _ r => [] }
abbrev Y36 := Tq → Option (Int)
def F36 (a : Y36) : FnC := { ρ := Int, sig := fun _ => some [.lend (.sl (.pair (.int .i64) (.pair (.int .i64) (.unit))))], ans := fun l o => (match l, o with | [.dv (.sl (.pair (.int .i64) (.pair (.int .i64) (.unit)))) lx0], [] => a lx0 | _, _ => none), enc := fun _ _ r => .dv (.int .i64) r, obs := fun _ _ r => [] }
abbrev Y39c62 := Tq → Option (Int)
def F39c62 (a : Y39c62) : FnC := { ρ := Int, sig := fun l => (match l with | [_, .fn 62 _ _ _] => some [.lend (.sl (.pair (.int .i64) (.pair (.int .i64) (.unit)))), .obj] | _ => none), ans := fun l o => (match l, o, capsOf l o with | [.dv (.sl (.pair (.int .i64) (.pair (.int .i64) (.unit)))) s0, .fn 62 0 0 _], [], [[]] => a s0 | _, _, _ => none), enc := fun _ _ r => .dv (.int .i64) r, obs := fun _ _ r => [] }
abbrev Y49 := Ti → Int → Option Ti
def F49 (a : Y49) : FnC := { ρ := List Int, sig := fun _ => some [.lend (.sl (.int .i64)), .lend (.int .i64)], ans := fun l o => (match l, o with | [.dv (.sl (.int .i64)) x0, .dv (.int .i64) count1], [] => a x0 count1 | _, _ => none), enc := fun _ _ r => .row 1500, obs := fun _ _ r => [(1500, .row (.int .i64) r)] }
abbrev Y5 := Ti → Ti → Option Tq
def F5 (a : Y5) : FnC := { ρ := List Tr, sig := fun _ => some [.own (.sl (.int .u8)), .own (.sl (.int .i64))], ans := fun l o => (match l, o with | [.dv (.sl (.int .u8)) days0, .dv (.sl (.int .i64)) fines1], [] => a days0 fines1 | _, _ => none), enc := fun _ _ r => .dv (.sl (.pair (.int .i64) (.pair (.int .i64) (.unit)))) r, obs := fun _ _ r => [] }
abbrev Y50c := Int → (List Bool) → (List Ti) → Ti → Option (Bool × List Bool × List Ti × List Int)
def F50c (a : Y50c) : FnC := { ρ := Bool × List Bool × List Ti × List Int, sig := fun _ => some [.own (.int .i64), .obj, .obj, .obj, .obj], ans := fun l o => (match l, o, capsOf l o with | [.dv (.int .i64) i0, .row 9000, .ptr 9001 0 [0], .ptr 9002 0 [0], .ptr 9003 0 [0]], [(9000, .row (.bool) p1), (9001, .rcd [.dv (.sl (.sl (.int .i64))) p2]), (9002, .rcd [.row 9004]), (9003, .rcd [.fn 50 0 3 _]), (9004, .row (.int .i64) p3)], [[.ptr 9001 0 [0], .ptr 9002 0 [0], .ptr 9003 0 [0]]] => a i0 p1 p2 p3 | _, _, _ => none), enc := fun _ _ r => .dv (.bool) r.1, obs := fun _ _ r => [(9000, .row (.bool) r.2.1), (9001, .rcd [.dv (.sl (.sl (.int .i64))) r.2.2.1]), (9002, .rcd [.row 9004]), (9003, .rcd [.fn 50 0 3 fun i => ([.ptr 9001 0 [0], .ptr 9002 0 [0], .ptr 9003 0 [0]] : List TV).getD i .any]), (9004, .row (.int .i64) r.2.2.2)] }
abbrev Y6 := (List Ti) → Int → Option (List (Int × List Int × Unit) × Int)
def F6 (a : Y6) : FnC := { ρ := List (Int × List Int × Unit) × Int, sig := fun _ => some [.own (.sl (.sl (.int .i64))), .own (.int .i64)], ans := fun l o => (match l, o with | [.dv (.sl (.sl (.int .i64))) work0, .dv (.int .i64) seats1], [] => a work0 seats1 | _, _ => none), enc := fun _ _ r => .tup 2 fun i => ([.dv (.sl (.pair (.int .i64) (.pair (.sl (.int .i64)) (.unit)))) r.1, .dv (.int .i64) r.2] : List TV).getD i .any, obs := fun _ _ r => [] }
abbrev Y61c62 := Tq → Option (Bool)
def F61c62 (a : Y61c62) : FnC := { ρ := Bool, sig := fun l => (match l with | [_, .fn 62 _ _ _] => some [.lend (.sl (.pair (.int .i64) (.pair (.int .i64) (.unit)))), .obj] | _ => none), ans := fun l o => (match l, o, capsOf l o with | [.dv (.sl (.pair (.int .i64) (.pair (.int .i64) (.unit)))) s0, .fn 62 0 0 _], [], [[]] => a s0 | _, _, _ => none), enc := fun _ _ r => .dv (.bool) r, obs := fun _ _ r => [] }
abbrev Y62 := Tr → Option (Bool)
def F62 (a : Y62) : FnC := { ρ := Bool, sig := fun _ => some [.lend (.pair (.int .i64) (.pair (.int .i64) (.unit)))], ans := fun l o => (match l, o with | [.dv (.pair (.int .i64) (.pair (.int .i64) (.unit))) o0], [] => a o0 | _, _ => none), enc := fun _ _ r => .dv (.bool) r, obs := fun _ _ r => [] }
abbrev Y63 := Ti → Int → Option (Int)
def F63 (a : Y63) : FnC := { ρ := Int, sig := fun _ => some [.lend (.sl (.int .i64)), .lend (.int .i64)], ans := fun l o => (match l, o with | [.dv (.sl (.int .i64)) s0, .dv (.int .i64) v1], [] => a s0 v1 | _, _ => none), enc := fun _ _ r => .dv (.int .i64) r, obs := fun _ _ r => [] }
abbrev Y64 := Tr → Tr → Option (Int)
def F64 (a : Y64) : FnC := { ρ := Int, sig := fun _ => some [.lend (.pair (.int .i64) (.pair (.int .i64) (.unit))), .lend (.pair (.int .i64) (.pair (.int .i64) (.unit)))], ans := fun l o => (match l, o with | [.dv (.pair (.int .i64) (.pair (.int .i64) (.unit))) ax0, .dv (.pair (.int .i64) (.pair (.int .i64) (.unit))) b1], [] => a ax0 b1 | _, _ => none), enc := fun _ _ r => .dv (.int .i64) r, obs := fun _ _ r => [] }
abbrev Y65 := Int → Int → Option (Int)
def F65 (a : Y65) : FnC := { ρ := Int, sig := fun _ => some [.lend (.int .i64), .lend (.int .i64)], ans := fun l o => (match l, o with | [.dv (.int .i64) x0, .dv (.int .i64) y1], [] => a x0 y1 | _, _ => none), enc := fun _ _ r => .dv (.int .i64) r, obs := fun _ _ r => [] }
abbrev Y66c := Tr → Tq → Option Tq
def F66c (a : Y66c) : FnC := { ρ := List Tr, sig := fun _ => some [.obj, .lend (.pair (.int .i64) (.pair (.int .i64) (.unit)))], ans := fun l o => (match l, o, capsOf l o with | [.ptr 9000 0 [], .dv (.pair (.int .i64) (.pair (.int .i64) (.unit))) x1], [(9000, .rcd [.row 9001, .fn 64 0 0 _]), (9001, .row (.pair (.int .i64) (.pair (.int .i64) (.unit))) p1)], [[]] => a x1 p1 | _, _, _ => none), enc := fun _ _ r => .tup 0 fun i => ([] : List TV).getD i .any, obs := fun _ _ r => [(2000, .row (.pair (.int .i64) (.pair (.int .i64) (.unit))) r), (9000, .rcd [.row 2000, .fn 64 0 0 fun i => ([] : List TV).getD i .any]), (9001, .dead)] }
abbrev Y67c := Tq → Option (Tr × Bool × List Tr)
def F67c (a : Y67c) : FnC := { ρ := Tr × Bool × List Tr, sig := fun _ => some [.obj], ans := fun l o => (match l, o, capsOf l o with | [.ptr 9000 0 []], [(9000, .rcd [.row 9001, .fn 64 0 0 _]), (9001, .row (.pair (.int .i64) (.pair (.int .i64) (.unit))) p0)], [[]] => a p0 | _, _, _ => none), enc := fun _ _ r => .tup 2 fun i => ([.dv (.pair (.int .i64) (.pair (.int .i64) (.unit))) r.1, .dv (.bool) r.2.1] : List TV).getD i .any, obs := fun _ _ r => [(2000, .row (.pair (.int .i64) (.pair (.int .i64) (.unit))) r.2.2), (9000, .rcd [.row 2000, .fn 64 0 0 fun i => ([] : List TV).getD i .any]), (9001, .dead)] }
abbrev Y7 := (List Ti) → Int → (List (Int × List Int × Unit)) → Option (Int × Int)
def F7 (a : Y7) : FnC := { ρ := Int × Int, sig := fun _ => some [.lend (.sl (.sl (.int .i64))), .lend (.int .i64), .lend (.sl (.pair (.int .i64) (.pair (.sl (.int .i64)) (.unit))))], ans := fun l o => (match l, o with | [.dv (.sl (.sl (.int .i64))) work0, .dv (.int .i64) seats1, .dv (.sl (.pair (.int .i64) (.pair (.sl (.int .i64)) (.unit)))) plan2], [] => a work0 seats1 plan2 | _, _ => none), enc := fun _ _ r => .tup 2 fun i => ([.dv (.int .i64) r.1, .dv (.int .i64) r.2] : List TV).getD i .any, obs := fun _ _ r => [] }
abbrev Y8 := (List Ti) → Int → Option (List Int × List Int × Int)
def F8 (a : Y8) : FnC := { ρ := List Int × List Int × Int, sig := fun _ => some [.own (.sl (.sl (.int .i64))), .own (.int .i64)], ans := fun l o => (match l, o with | [.dv (.sl (.sl (.int .i64))) work0, .dv (.int .i64) seats1], [] => a work0 seats1 | _, _ => none), enc := fun _ _ r => .tup 3 fun i => ([.dv (.sl (.int .i64)) r.1, .dv (.sl (.int .i64)) r.2.1, .dv (.int .i64) r.2.2] : List TV).getD i .any, obs := fun _ _ r => [] }
abbrev Y85 := Int → Option (Bool)
def F85 (a : Y85) : FnC := { ρ := Bool, sig := fun _ => some [.lend (.int .i64)], ans := fun l o => (match l, o with | [.dv (.int .i64) x0], [] => a x0 | _, _ => none), enc := fun _ _ r => .dv (.bool) r, obs := fun _ _ r => [] }
abbrev Y86c := Int → Tq → Tq → Option Tq
def F86c (a : Y86c) : FnC := { ρ := List Tr, sig := fun _ => some [.obj, .lend (.int .i64), .lend (.sl (.pair (.int .i64) (.pair (.int .i64) (.unit))))], ans := fun l o => (match l, o with | [.row 9000, .dv (.int .i64) i1, .dv (.sl (.pair (.int .i64) (.pair (.int .i64) (.unit)))) v2], [(9000, .row (.pair (.int .i64) (.pair (.int .i64) (.unit))) p2)] => a i1 v2 p2 | _, _ => none), enc := fun _ _ r => .row 1500, obs := fun _ _ r => [(1500, .row (.pair (.int .i64) (.pair (.int .i64) (.unit))) r), (9000, .dead)] }
abbrev Y9 := Tq → Ti → Option (Int × Int)
def F9 (a : Y9) : FnC := { ρ := Int × Int, sig := fun _ => some [.lend (.sl (.pair (.int .i64) (.pair (.int .i64) (.unit)))), .lend (.sl (.int .i64))], ans := fun l o => (match l, o with | [.dv (.sl (.pair (.int .i64) (.pair (.int .i64) (.unit)))) lx0, .dv (.sl (.int .i64)) plan1], [] => a lx0 plan1 | _, _ => none), enc := fun _ _ r => .tup 2 fun i => ([.dv (.int .i64) r.1, .dv (.int .i64) r.2] : List TV).getD i .any, obs := fun _ _ r => [] }
end Go.Proofs.YtjcnfpfldocpdaaGreatDoor
