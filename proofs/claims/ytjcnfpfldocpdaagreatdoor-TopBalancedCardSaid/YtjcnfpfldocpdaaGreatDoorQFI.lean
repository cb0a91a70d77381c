/-

-/
import Derived.Test.YtjcnfpfldocpdaaGreatDoorYD
namespace Go.Proofs.YtjcnfpfldocpdaaGreatDoor
open Go.RowKit
set_option linter.unusedVariables false
abbrev Tq := List (Int × Int × Unit)
abbrev Tr := Int × Int × Unit
abbrev Ti := List Int
abbrev Y10 := Tq → Option (Int × Int)
def F10 (a : Y10) : FnC := { ρ := Int × Int, sig := fun _ => some [.lend (.sl (.pair (.int .i64) (.pair (.int .i64) (.unit))))], ans := fun l o => (match l, o with | [.dv (.sl (.pair (.int .i64) (.pair (.int .i64) (.unit)))) lx0], [] => a lx0 | _, _ => none), enc := fun _ _ r => .tup 2 fun i => ([.dv (.int .i64) r.1, .dv (.int .i64) r.2] : List TV).getD i .any, obs := fun _ _ r => [] }
abbrev Y108c74 := Int → Int → Ti → Tq → Option (List Int × List Tr)
def F108c74 (a : Y108c74) : FnC := { ρ := List Int × List Tr, sig := fun l => (match l with | [_, _, _, .fn 74 _ _ _] => some [.obj, .own (.int .i64), .own (.int .i64), .obj] | _ => none), ans := fun l o => (match l, o, capsOf l o with | [.row 9000, .dv (.int .i64) ax1, .dv (.int .i64) b2, .fn 74 0 1 _], [(9000, .row (.int .i64) p2), (9001, .rcd [.dv (.sl (.pair (.int .i64) (.pair (.int .i64) (.unit)))) p3])], [[.ptr 9001 0 [0]]] => a ax1 b2 p2 p3 | _, _, _ => none), enc := fun _ _ r => .tup 0 fun i => ([] : List TV).getD i .any, obs := fun _ _ r => [(9000, .row (.int .i64) r.1), (9001, .rcd [.dv (.sl (.pair (.int .i64) (.pair (.int .i64) (.unit)))) r.2])] }
abbrev Y109c74 := Int → Int → Int → Ti → Tq → Option (List Int × List Tr)
def F109c74 (a : Y109c74) : FnC := { ρ := List Int × List Tr, sig := fun l => (match l with | [_, _, _, _, .fn 74 _ _ _] => some [.obj, .own (.int .i64), .own (.int .i64), .own (.int .i64), .obj] | _ => none), ans := fun l o => (match l, o, capsOf l o with | [.row 9000, .dv (.int .i64) ax1, .dv (.int .i64) mx2, .dv (.int .i64) b3, .fn 74 0 1 _], [(9000, .row (.int .i64) p3), (9001, .rcd [.dv (.sl (.pair (.int .i64) (.pair (.int .i64) (.unit)))) p4])], [[.ptr 9001 0 [0]]] => a ax1 mx2 b3 p3 p4 | _, _, _ => none), enc := fun _ _ r => .tup 0 fun i => ([] : List TV).getD i .any, obs := fun _ _ r => [(9000, .row (.int .i64) r.1), (9001, .rcd [.dv (.sl (.pair (.int .i64) (.pair (.int .i64) (.unit)))) r.2])] }
abbrev Y12 := Option (Bool)
def F12 (a : Y12) : FnC := { ρ := Bool, sig := fun _ => some [], ans := fun l o => (match l, o with | [], [] => a | _, _ => none), enc := fun _ _ r => .dv (.bool) r, obs := fun _ _ r => [] }
abbrev Y13 := Tq → Option (List Int × Int)
def F13 (a : Y13) : FnC := { ρ := List Int × Int, sig := fun _ => some [.own (.sl (.pair (.int .i64) (.pair (.int .i64) (.unit))))], ans := fun l o => (match l, o with | [.dv (.sl (.pair (.int .i64) (.pair (.int .i64) (.unit)))) lx0], [] => a lx0 | _, _ => none), enc := fun _ _ r => .tup 2 fun i => ([.dv (.sl (.int .i64)) r.1, .dv (.int .i64) r.2] : List TV).getD i .any, obs := fun _ _ r => [] }
abbrev Y14 := Tq → Option (List Int × Int)
def F14 (a : Y14) : FnC := { ρ := List Int × Int, sig := fun _ => some [.own (.sl (.pair (.int .i64) (.pair (.int .i64) (.unit))))], ans := fun l o => (match l, o with | [.dv (.sl (.pair (.int .i64) (.pair (.int .i64) (.unit)))) lx0], [] => a lx0 | _, _ => none), enc := fun _ _ r => .tup 2 fun i => ([.dv (.sl (.int .i64)) r.1, .dv (.int .i64) r.2] : List TV).getD i .any, obs := fun _ _ r => [] }
abbrev Y15 := Tq → Option (List Int × Int)
def F15 (a : Y15) : FnC := { ρ := List Int × Int, sig := fun _ => some [.lend (.sl (.pair (.int .i64) (.pair (.int .i64) (.unit))))], ans := fun l o => (match l, o with | [.dv (.sl (.pair (.int .i64) (.pair (.int .i64) (.unit)))) lx0], [] => a lx0 | _, _ => none), enc := fun _ _ r => .tup 2 fun i => ([.row 1500, .dv (.int .i64) r.2] : List TV).getD i .any, obs := fun _ _ r => [(1500, .row (.int .i64) r.1)] }
abbrev Y16 := Ti → Int → Option (List Int × Int)
def F16 (a : Y16) : FnC := { ρ := List Int × Int, sig := fun _ => some [.own (.sl (.int .i64)), .own (.int .i64)], ans := fun l o => (match l, o with | [.dv (.sl (.int .i64)) weights0, .dv (.int .i64) load1], [] => a weights0 load1 | _, _ => none), enc := fun _ _ r => .tup 2 fun i => ([.dv (.sl (.int .i64)) r.1, .dv (.int .i64) r.2] : List TV).getD i .any, obs := fun _ _ r => [] }
abbrev Y17 := Ti → Option (Int × Int)
def F17 (a : Y17) : FnC := { ρ := Int × Int, sig := fun _ => some [.lend (.sl (.int .i64))], ans := fun l o => (match l, o with | [.dv (.sl (.int .i64)) weights0], [] => a weights0 | _, _ => none), enc := fun _ _ r => .tup 2 fun i => ([.dv (.int .i64) r.1, .dv (.int .i64) r.2] : List TV).getD i .any, obs := fun _ _ r => [] }
abbrev Y18 := Tq → Int → Option (Int × Int)
def F18 (a : Y18) : FnC := { ρ := Int × Int, sig := fun _ => some [.lend (.sl (.pair (.int .i64) (.pair (.int .i64) (.unit)))), .lend (.int .i64)], ans := fun l o => (match l, o with | [.dv (.sl (.pair (.int .i64) (.pair (.int .i64) (.unit)))) lx0, .dv (.int .i64) order1], [] => a lx0 order1 | _, _ => none), enc := fun _ _ r => .tup 2 fun i => ([.dv (.int .i64) r.1, .dv (.int .i64) r.2] : List TV).getD i .any, obs := fun _ _ r => [] }
abbrev Y19 := Ti → Ti → Int → Option (Int)
def F19 (a : Y19) : FnC := { ρ := Int, sig := fun _ => some [.lend (.sl (.int .i64)), .lend (.sl (.int .i64)), .lend (.int .i64)], ans := fun l o => (match l, o with | [.dv (.sl (.int .i64)) weights0, .dv (.sl (.int .i64)) laying1, .dv (.int .i64) load2], [] => a weights0 laying1 load2 | _, _ => none), enc := fun _ _ r => .dv (.int .i64) r, obs := fun _ _ r => [] }
abbrev Y24 := (Option Ti) → Option (Option Ti)
def F24 (a : Y24) : FnC := { ρ := Option Ti, sig := fun _ => some [.own (.nsl (.int .i64))], ans := fun l o => (match l, o with | [.dv (.nsl (.int .i64)) s0], [] => a s0 | _, _ => none), enc := fun _ _ r => .dv (.nsl (.int .i64)) r, obs := fun _ _ r => [] }
abbrev Y26c46 := Ti → Option (Bool)
def F26c46 (a : Y26c46) : FnC := { ρ := Bool, sig := fun l => (match l with | [_, .fn 46 _ _ _] => some [.lend (.sl (.int .i64)), .obj] | _ => none), ans := fun l o => (match l, o, capsOf l o with | [.dv (.sl (.int .i64)) s0, .fn 46 0 0 _], [], [[]] => a s0 | _, _, _ => none), enc := fun _ _ r => .dv (.bool) r, obs := fun _ _ r => [] }
abbrev Y33 := Tq → Option (Int)
def F33 (a : Y33) : FnC := { ρ := Int, sig := fun _ => some [.lend (.sl (.pair (.int .i64) (.pair (.int .i64) (.unit))))], ans := fun l o => (match l, o with | [.dv (.sl (.pair (.int .i64) (.pair (.int .i64) (.unit)))) lx0], [] => a lx0 | _, _ => none), enc := fun _ _ r => .dv (.int .i64) r, obs := fun _ _ r => [] }
abbrev Y34 := Int → Int → Int → Option (Bool)
def F34 (a : Y34) : FnC := { ρ := Bool, sig := fun _ => some [.lend (.int .i64), .lend (.int .i64), .lend (.int .i64)], ans := fun l o => (match l, o with | [.dv (.int .i64) lo0, .dv (.int .i64) n1, .dv (.int .i64) hi2], [] => a lo0 n1 hi2 | _, _ => none), enc := fun _ _ r => .dv (.bool) r, obs := fun _ _ r => [] }
abbrev Y35 := Ti → Int → Option (Bool)
def F35 (a : Y35) : FnC := { ρ := Bool, sig := fun _ => some [.lend (.sl (.int .i64)), .lend (.int .i64)], ans := fun l o => (match l, o with | [.dv (.sl (.int .i64)) s0, .dv (.int .i64) v1], [] => a s0 v1 | _, _ => none), enc := fun _ _ r => .dv (.bool) r, obs := fun _ _ r => [] }
abbrev Y36 := Tq → Option (Int)
def F36 (a : Y36) : FnC := { ρ := Int, sig := fun _ => some [.lend (.sl (.pair (.int .i64) (.pair (.int .i64) (.unit))))], ans := fun l o => (match l, o with | [.dv (.sl (.pair (.int .i64) (.pair (.int .i64) (.unit)))) lx0], [] => a lx0 | _, _ => none), enc := fun _ _ r => .dv (.int .i64) r, obs := fun _ _ r => [] }
abbrev Y38 := Tq → Int → Option Tq
def F38 (a : Y38) : FnC := { ρ := List Tr, sig := fun _ => some [.own (.sl (.pair (.int .i64) (.pair (.int .i64) (.unit)))), .own (.int .i64)], ans := fun l o => (match l, o with | [.dv (.sl (.pair (.int .i64) (.pair (.int .i64) (.unit)))) lx0, .dv (.int .i64) i1], [] => a lx0 i1 | _, _ => none), enc := fun _ _ r => .dv (.sl (.pair (.int .i64) (.pair (.int .i64) (.unit)))) r, obs := fun _ _ r => [] }
abbrev Y39c40 := Tq → Tq → Option (Int × List Tr)
def F39c40 (a : Y39c40) : FnC := { ρ := Int × List Tr, sig := fun l => (match l with | [_, .fn 40 _ _ _] => some [.lend (.sl (.pair (.int .i64) (.pair (.int .i64) (.unit)))), .obj] | _ => none), ans := fun l o => (match l, o, capsOf l o with | [.dv (.sl (.pair (.int .i64) (.pair (.int .i64) (.unit)))) s0, .fn 40 0 1 _], [(9000, .row (.pair (.int .i64) (.pair (.int .i64) (.unit))) p1)], [[.ptr 9000 0 []]] => a s0 p1 | _, _, _ => none), enc := fun _ _ r => .dv (.int .i64) r.1, obs := fun _ _ r => [(9000, .row (.pair (.int .i64) (.pair (.int .i64) (.unit))) r.2)] }
abbrev Y39c62 := Tq → Option (Int)
def F39c62 (a : Y39c62) : FnC := { ρ := Int, sig := fun l => (match l with | [_, .fn 62 _ _ _] => some [.lend (.sl (.pair (.int .i64) (.pair (.int .i64) (.unit)))), .obj] | _ => none), ans := fun l o => (match l, o, capsOf l o with | [.dv (.sl (.pair (.int .i64) (.pair (.int .i64) (.unit)))) s0, .fn 62 0 0 _], [], [[]] => a s0 | _, _, _ => none), enc := fun _ _ r => .dv (.int .i64) r, obs := fun _ _ r => [] }
abbrev Y4 := Ti → Int → Option (Bool)
def F4 (a : Y4) : FnC := { ρ := Bool, sig := fun _ => some [.lend (.sl (.int .u8)), .lend (.int .u8)], ans := fun l o => (match l, o with | [.dv (.sl (.int .u8)) days0, .dv (.int .u8) orders1], [] => a days0 orders1 | _, _ => none), enc := fun _ _ r => .dv (.bool) r, obs := fun _ _ r => [] }
abbrev Y40c := Tr → Tq → Option (Bool × List Tr)
def F40c (a : Y40c) : FnC := { ρ := Bool × List Tr, sig := fun _ => some [.lend (.pair (.int .i64) (.pair (.int .i64) (.unit))), .obj], ans := fun l o => (match l, o with | [.dv (.pair (.int .i64) (.pair (.int .i64) (.unit))) x0, .ptr 9000 0 []], [(9000, .row (.pair (.int .i64) (.pair (.int .i64) (.unit))) p1)] => a x0 p1 | _, _ => none), enc := fun _ _ r => .dv (.bool) r.1, obs := fun _ _ r => [(9000, .row (.pair (.int .i64) (.pair (.int .i64) (.unit))) r.2)] }
abbrev Y41c := Tq → Ti → Option Ti
def F41c (a : Y41c) : FnC := { ρ := List Int, sig := fun _ => some [.lend (.sl (.pair (.int .i64) (.pair (.int .i64) (.unit)))), .obj], ans := fun l o => (match l, o with | [.dv (.sl (.pair (.int .i64) (.pair (.int .i64) (.unit)))) lx0, .row 9000], [(9000, .row (.int .i64) p1)] => a lx0 p1 | _, _ => none), enc := fun _ _ r => .row 1500, obs := fun _ _ r => [(1500, .row (.int .i64) r), (9000, .dead)] }
abbrev Y41cv1 := Tq → Option Ti
def F41cv1 (a : Y41cv1) : FnC := { ρ := List Int, sig := fun _ => some [.lend (.sl (.pair (.int .i64) (.pair (.int .i64) (.unit)))), .obj], ans := fun l o => (match l, o with | [.dv (.sl (.pair (.int .i64) (.pair (.int .i64) (.unit)))) lx0, .nl], [] => a lx0 | _, _ => none), enc := fun _ _ r => .row 1500, obs := fun _ _ r => [(1500, .row (.int .i64) r)] }
abbrev Y42 := Ti → Option (Int)
def F42 (a : Y42) : FnC := { ρ := Int, sig := fun _ => some [.lend (.sl (.int .i64))], ans := fun l o => (match l, o with | [.dv (.sl (.int .i64)) weights0], [] => a weights0 | _, _ => none), enc := fun _ _ r => .dv (.int .i64) r, obs := fun _ _ r => [] }
abbrev Y43c := Ti → Int → Int → Int → Ti → Option (Option Ti × List Int)
def F43c (a : Y43c) : FnC := { ρ := Option Ti × List Int, sig := fun _ => some [.own (.sl (.int .i64)), .own (.int .i64), .own (.int .i64), .own (.int .i64), .obj, .obj], ans := fun l o => (match l, o, capsOf l o with | [.dv (.sl (.int .i64)) laying0, .dv (.int .i64) left1, .dv (.int .i64) rest2, .dv (.int .i64) use3, .ptr 9000 0 [0], .ptr 9001 0 [0]], [(9000, .rcd [.dv (.sl (.int .i64)) p4]), (9001, .rcd [.fn 43 0 2 _])], [[.ptr 9000 0 [0], .ptr 9001 0 [0]]] => a laying0 left1 rest2 use3 p4 | _, _, _ => none), enc := fun _ _ r => .dv (.nsl (.int .i64)) r.1, obs := fun _ _ r => [(9000, .rcd [.dv (.sl (.int .i64)) r.2]), (9001, .rcd [.fn 43 0 2 fun i => ([.ptr 9000 0 [0], .ptr 9001 0 [0]] : List TV).getD i .any])] }
abbrev Y44 := Ti → Option Ti
def F44 (a : Y44) : FnC := { ρ := List Int, sig := fun _ => some [.own (.sl (.int .i64))], ans := fun l o => (match l, o with | [.dv (.sl (.int .i64)) s0], [] => a s0 | _, _ => none), enc := fun _ _ r => .dv (.csl (.int .i64)) r, obs := fun _ _ r => [] }
abbrev Y45 := Ti → Option (List Int × Int)
def F45 (a : Y45) : FnC := { ρ := List Int × Int, sig := fun _ => some [.own (.sl (.int .i64))], ans := fun l o => (match l, o with | [.dv (.sl (.int .i64)) weights0], [] => a weights0 | _, _ => none), enc := fun _ _ r => .tup 2 fun i => ([.dv (.sl (.int .i64)) r.1, .dv (.int .i64) r.2] : List TV).getD i .any, obs := fun _ _ r => [] }
abbrev Y46 := Int → Option (Bool)
def F46 (a : Y46) : FnC := { ρ := Bool, sig := fun _ => some [.lend (.int .i64)], ans := fun l o => (match l, o with | [.dv (.int .i64) n0], [] => a n0 | _, _ => none), enc := fun _ _ r => .dv (.bool) r, obs := fun _ _ r => [] }
abbrev Y47 := Int → Int → Int → Option (Bool)
def F47 (a : Y47) : FnC := { ρ := Bool, sig := fun _ => some [.lend (.int .i64), .lend (.int .i64), .lend (.int .i64)], ans := fun l o => (match l, o with | [.dv (.int .i64) lo0, .dv (.int .i64) n1, .dv (.int .i64) hi2], [] => a lo0 n1 hi2 | _, _ => none), enc := fun _ _ r => .dv (.bool) r, obs := fun _ _ r => [] }
abbrev Y5 := Ti → Ti → Option Tq
def F5 (a : Y5) : FnC := { ρ := List Tr, sig := fun _ => some [.own (.sl (.int .u8)), .own (.sl (.int .i64))], ans := fun l o => (match l, o with | [.dv (.sl (.int .u8)) days0, .dv (.sl (.int .i64)) fines1], [] => a days0 fines1 | _, _ => none), enc := fun _ _ r => .dv (.sl (.pair (.int .i64) (.pair (.int .i64) (.unit)))) r, obs := fun _ _ r => [] }
abbrev Y57c46 := Ti → Option (Int)
def F57c46 (a : Y57c46) : FnC := { ρ := Int, sig := fun l => (match l with | [_, .fn 46 _ _ _] => some [.lend (.sl (.int .i64)), .obj] | _ => none), ans := fun l o => (match l, o, capsOf l o with | [.dv (.sl (.int .i64)) s0, .fn 46 0 0 _], [], [[]] => a s0 | _, _, _ => none), enc := fun _ _ r => .dv (.int .i64) r, obs := fun _ _ r => [] }
abbrev Y61c62 := Tq → Option (Bool)
def F61c62 (a : Y61c62) : FnC := { ρ := Bool, sig := fun l => (match l with | [_, .fn 62 _ _ _] => some [.lend (.sl (.pair (.int .i64) (.pair (.int .i64) (.unit)))), .obj] | _ => none), ans := fun l o => (match l, o, capsOf l o with | [.dv (.sl (.pair (.int .i64) (.pair (.int .i64) (.unit)))) s0, .fn 62 0 0 _], [], [[]] => a s0 | _, _, _ => none), enc := fun _ _ r => .dv (.bool) r, obs := fun _ _ r => [] }
abbrev Y62 := Tr → Option (Bool)
def F62 (a : Y62) : FnC := { ρ := Bool, sig := fun _ => some [.lend (.pair (.int .i64) (.pair (.int .i64) (.unit)))], ans := fun l o => (match l, o with | [.dv (.pair (.int .i64) (.pair (.int .i64) (.unit))) o0], [] => a o0 | _, _ => none), enc := fun _ _ r => .dv (.bool) r, obs := fun _ _ r => [] }
abbrev Y63 := Ti → Int → Option (Int)
def F63 (a : Y63) : FnC := { ρ := Int, sig := fun _ => some [.lend (.sl (.int .i64)), .lend (.int .i64)], ans := fun l o => (match l, o with | [.dv (.sl (.int .i64)) s0, .dv (.int .i64) v1], [] => a s0 v1 | _, _ => none), enc := fun _ _ r => .dv (.int .i64) r, obs := fun _ _ r => [] }
abbrev Y64 := Tr → Tr → Option (Int)
def F64 (a : Y64) : FnC := { ρ := Int, sig := fun _ => some [.lend (.pair (.int .i64) (.pair (.int .i64) (.unit))), .lend (.pair (.int .i64) (.pair (.int .i64) (.unit)))], ans := fun l o => (match l, o with | [.dv (.pair (.int .i64) (.pair (.int .i64) (.unit))) ax0, .dv (.pair (.int .i64) (.pair (.int .i64) (.unit))) b1], [] => a ax0 b1 | _, _ => none), enc := fun _ _ r => .dv (.int .i64) r, obs := fun _ _ r => [] }
abbrev Y65 := Int → Int → Option (Int)
def F65 (a : Y65) : FnC := { ρ := Int, sig := fun _ => some [.lend (.int .i64), .lend (.int .i64)], ans := fun l o => (match l, o with | [.dv (.int .i64) x0, .dv (.int .i64) y1], [] => a x0 y1 | _, _ => none), enc := fun _ _ r => .dv (.int .i64) r, obs := fun _ _ r => [] }
abbrev Y66c := Tr → Tq → Option Tq
def F66c (a : Y66c) : FnC := { ρ := List Tr, sig := fun _ => some [.obj, .lend (.pair (.int .i64) (.pair (.int .i64) (.unit)))], ans := fun l o => (match l, o, capsOf l o with | [.ptr 9000 0 [], .dv (.pair (.int .i64) (.pair (.int .i64) (.unit))) x1], [(9000, .rcd [.row 9001, .fn 64 0 0 _]), (9001, .row (.pair (.int .i64) (.pair (.int .i64) (.unit))) p1)], [[]] => a x1 p1 | _, _, _ => none), enc := fun _ _ r => .tup 0 fun i => ([] : List TV).getD i .any, obs := fun _ _ r => [(2000, .row (.pair (.int .i64) (.pair (.int .i64) (.unit))) r), (9000, .rcd [.row 2000, .fn 64 0 0 fun i => ([] : List TV).getD i .any]), (9001, .dead)] }
abbrev Y67c := Tq → Option (Tr × Bool × List Tr)
def F67c (a : Y67c) : FnC := { ρ := Tr × Bool × List Tr, sig := fun _ => some [.obj], ans := fun l o => (match l, o, capsOf l o with | [.ptr 9000 0 []], [(9000, .rcd [.row 9001, .fn 64 0 0 _]), (9001, .row (.pair (.int .i64) (.pair (.int .i64) (.unit))) p0)], [[]] => a p0 | _, _, _ => none), enc := fun _ _ r => .tup 2 fun i => ([.dv (.pair (.int .i64) (.pair (.int .i64) (.unit))) r.1, .dv (.bool) r.2.1] : List TV).getD i .any, obs := fun _ _ r => [(2000, .row (.pair (.int .i64) (.pair (.int .i64) (.unit))) r.2.2), (9000, .rcd [.row 2000, .fn 64 0 0 fun i => ([] : List TV).getD i .any]), (9001, .dead)] }
abbrev Y70 := (List Tq) → Option Tq
def F70 (a : Y70) : FnC := { ρ := List Tr, sig := fun _ => some [.own (.sl (.sl (.pair (.int .i64) (.pair (.int .i64) (.unit)))))], ans := fun l o => (match l, o with | [.dv (.sl (.sl (.pair (.int .i64) (.pair (.int .i64) (.unit))))) slices0], [] => a slices0 | _, _ => none), enc := fun _ _ r => .dv (.sl (.pair (.int .i64) (.pair (.int .i64) (.unit)))) r, obs := fun _ _ r => [] }
abbrev Y71c := Int → Tq → Ti → Option (Bool)
def F71c (a : Y71c) : FnC := { ρ := Bool, sig := fun _ => some [.lend (.int .i64), .obj, .obj], ans := fun l o => (match l, o with | [.dv (.int .i64) i0, .el (.sl (.pair (.int .i64) (.pair (.int .i64) (.unit)))) p1 [], .el (.sl (.int .i64)) p2 []], [] => a i0 p1 p2 | _, _ => none), enc := fun _ _ r => .dv (.bool) r, obs := fun _ _ r => [] }
abbrev Y71cv1 := Int → Tq → Ti → Option (Bool × List Tr × List Int)
def F71cv1 (a : Y71cv1) : FnC := { ρ := Bool × List Tr × List Int, sig := fun _ => some [.own (.int .i64), .obj, .obj], ans := fun l o => (match l, o with | [.dv (.int .i64) i0, .ptr 9000 0 [0], .ptr 9001 0 [0]], [(9000, .rcd [.dv (.sl (.pair (.int .i64) (.pair (.int .i64) (.unit)))) p1]), (9001, .rcd [.row 9002]), (9002, .row (.int .i64) p2)] => a i0 p1 p2 | _, _ => none), enc := fun _ _ r => .dv (.bool) r.1, obs := fun _ _ r => [(9000, .rcd [.dv (.sl (.pair (.int .i64) (.pair (.int .i64) (.unit)))) r.2.1]), (9001, .rcd [.row 9002]), (9002, .row (.int .i64) r.2.2)] }
abbrev Y72 := Tq → Ti → Option (Int)
def F72 (a : Y72) : FnC := { ρ := Int, sig := fun _ => some [.lend (.sl (.pair (.int .i64) (.pair (.int .i64) (.unit)))), .lend (.sl (.int .i64))], ans := fun l o => (match l, o with | [.dv (.sl (.pair (.int .i64) (.pair (.int .i64) (.unit)))) lx0, .dv (.sl (.int .i64)) set1], [] => a lx0 set1 | _, _ => none), enc := fun _ _ r => .dv (.int .i64) r, obs := fun _ _ r => [] }
abbrev Y73c74 := Ti → Tq → Option (List Int × List Tr)
def F73c74 (a : Y73c74) : FnC := { ρ := List Int × List Tr, sig := fun l => (match l with | [_, .fn 74 _ _ _] => some [.obj, .obj] | _ => none), ans := fun l o => (match l, o, capsOf l o with | [.row 9000, .fn 74 0 1 _], [(9000, .row (.int .i64) p0), (9001, .rcd [.dv (.sl (.pair (.int .i64) (.pair (.int .i64) (.unit)))) p1])], [[.ptr 9001 0 [0]]] => a p0 p1 | _, _, _ => none), enc := fun _ _ r => .tup 0 fun i => ([] : List TV).getD i .any, obs := fun _ _ r => [(9000, .row (.int .i64) r.1), (9001, .rcd [.dv (.sl (.pair (.int .i64) (.pair (.int .i64) (.unit)))) r.2])] }
abbrev Y74c := Int → Int → Tq → Option (Int × List Tr)
def F74c (a : Y74c) : FnC := { ρ := Int × List Tr, sig := fun _ => some [.own (.int .i64), .own (.int .i64), .obj], ans := fun l o => (match l, o with | [.dv (.int .i64) ax0, .dv (.int .i64) b1, .ptr 9000 0 [0]], [(9000, .rcd [.dv (.sl (.pair (.int .i64) (.pair (.int .i64) (.unit)))) p2])] => a ax0 b1 p2 | _, _ => none), enc := fun _ _ r => .dv (.int .i64) r.1, obs := fun _ _ r => [(9000, .rcd [.dv (.sl (.pair (.int .i64) (.pair (.int .i64) (.unit)))) r.2])] }
abbrev Y75c := Ti → Option Ti
def F75c (a : Y75c) : FnC := { ρ := List Int, sig := fun _ => some [.obj], ans := fun l o => (match l, o with | [.row 9000], [(9000, .row (.int .i64) p0)] => a p0 | _, _ => none), enc := fun _ _ r => .tup 0 fun i => ([] : List TV).getD i .any, obs := fun _ _ r => [(9000, .row (.int .i64) r)] }
abbrev Y76 := Ti → Option Ti
def F76 (a : Y76) : FnC := { ρ := List Int, sig := fun _ => some [.own (.sl (.int .i64))], ans := fun l o => (match l, o with | [.dv (.sl (.int .i64)) weights0], [] => a weights0 | _, _ => none), enc := fun _ _ r => .dv (.sl (.int .i64)) r, obs := fun _ _ r => [] }
abbrev Y85 := Int → Option (Bool)
def F85 (a : Y85) : FnC := { ρ := Bool, sig := fun _ => some [.lend (.int .i64)], ans := fun l o => (match l, o with | [.dv (.int .i64) x0], [] => a x0 | _, _ => none), enc := fun _ _ r => .dv (.bool) r, obs := fun _ _ r => [] }
abbrev Y86c := Int → Tq → Tq → Option Tq
def F86c (a : Y86c) : FnC := { ρ := List Tr, sig := fun _ => some [.obj, .lend (.int .i64), .lend (.sl (.pair (.int .i64) (.pair (.int .i64) (.unit))))], ans := fun l o => (match l, o with | [.row 9000, .dv (.int .i64) i1, .dv (.sl (.pair (.int .i64) (.pair (.int .i64) (.unit)))) v2], [(9000, .row (.pair (.int .i64) (.pair (.int .i64) (.unit))) p2)] => a i1 v2 p2 | _, _ => none), enc := fun _ _ r => .row 1500, obs := fun _ _ r => [(1500, .row (.pair (.int .i64) (.pair (.int .i64) (.unit))) r), (9000, .dead)] }
abbrev Y92c := Int → Option Tq
def F92c (a : Y92c) : FnC := { ρ := List Tr, sig := fun _ => some [.obj, .lend (.int .i64)], ans := fun l o => (match l, o with | [.nl, .dv (.int .i64) n1], [] => a n1 | _, _ => none), enc := fun _ _ r => .row 1500, obs := fun _ _ r => [(1500, .row (.pair (.int .i64) (.pair (.int .i64) (.unit))) r)] }
abbrev Y93c74 := Int → Ti → Tq → Option (List Int × List Tr)
def F93c74 (a : Y93c74) : FnC := { ρ := List Int × List Tr, sig := fun l => (match l with | [_, _, .fn 74 _ _ _] => some [.obj, .own (.int .i64), .obj] | _ => none), ans := fun l o => (match l, o, capsOf l o with | [.row 9000, .dv (.int .i64) n1, .fn 74 0 1 _], [(9000, .row (.int .i64) p1), (9001, .rcd [.dv (.sl (.pair (.int .i64) (.pair (.int .i64) (.unit)))) p2])], [[.ptr 9001 0 [0]]] => a n1 p1 p2 | _, _, _ => none), enc := fun _ _ r => .tup 0 fun i => ([] : List TV).getD i .any, obs := fun _ _ r => [(9000, .row (.int .i64) r.1), (9001, .rcd [.dv (.sl (.pair (.int .i64) (.pair (.int .i64) (.unit)))) r.2])] }
abbrev Y96c := Ti → Option Ti
def F96c (a : Y96c) : FnC := { ρ := List Int, sig := fun _ => some [.obj], ans := fun l o => (match l, o with | [.row 9000], [(9000, .row (.int .i64) p0)] => a p0 | _, _ => none), enc := fun _ _ r => .dv (.sl (.int .i64)) r, obs := fun _ _ r => [(9000, .dead)] }
end Go.Proofs.YtjcnfpfldocpdaaGreatDoor
