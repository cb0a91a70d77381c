/-
 The functions that the examples of the chapters reach, told by their reckoning. The search for the shortest rule of crosses, told by its reckoning. The functions that the examples of the chapters reach, told by their reckoning. The functions that the examples of the chapters reach, told by their reckoning.
-/
import Derived.Test.YtjcnfpfldocpdaaGreatDoorXS
import Derived.Test.YtjcnfpfldocpdaaGreatDoorINS
namespace Go.Proofs.YtjcnfpfldocpdaaGreatDoor
open Go.RowKit
set_option linter.unusedVariables false
open Go.RowKit
noncomputable def G124 := gn Tryz.f124 [] nrc nfz [] ⟨[], ⟨[4], [1], [], []⟩⟩ 3 (fun _ => some [.own (.sl (.int .i64))])
theorem H124 : FnOk Tryz.prog 124 G124 := gn_ok Tryz.func124 (by kernel_rfl) (by kernel_rfl) trivial
noncomputable def G139c := gn Tryz.f139 [] nrc nfz [] ⟨[], ⟨[15], [9000], [], []⟩⟩ 13 (fun _ => some [.own (.arr 2 (.int .i64)), .obj])
theorem H139c : FnOk Tryz.prog 139 G139c := gn_ok Tryz.func139 (by kernel_rfl) (by kernel_rfl) trivial
noncomputable def G123c := gn Tryz.f123 [(124, G124), (139, G139c)] nrc nfz [] ⟨[], ⟨[10], [9000, 9001], [], []⟩⟩ 7 (fun _ => some [.own (.arr 2 (.int .i64)), .obj, .obj])
theorem H123c : FnOk Tryz.prog 123 G123c := gn_ok Tryz.func123 (by kernel_rfl) (by kernel_rfl) ⟨H124, H139c, trivial⟩
noncomputable def G122c123 := gn Tryz.f122 [(123, G123c)] nrc nfz [(1, ⟨[0, 1, 6, 7], [9000, 9001], [], []⟩), (4, ⟨[0, 1, 4, 5, 6, 7], [9000, 9001], [], []⟩)] ⟨[], ⟨[], [9000, 9001], [], []⟩⟩ 22 (fun l => (match l with | [_, .fn 123 _ _ _] => some [.own (.int .i64), .obj] | _ => none))
theorem H122c123 : FnOk Tryz.prog 122 G122c123 := gn_ok Tryz.func122 (by kernel_rfl) (by kernel_rfl) ⟨H123c, trivial⟩
noncomputable def G102 := gn Tryz.f102 [(122, G122c123)] nrc nfz [] ⟨[(9, .arr 61 (.bool))], ⟨[9], [], [], []⟩⟩ 8 (fun _ => some [.lend (.sl (.int .i64))])
theorem H102 : FnOk Tryz.prog 102 G102 := gn_ok Tryz.func102 (by kernel_rfl) (by kernel_rfl) ⟨H122c123, trivial⟩
noncomputable def G103c := gn Tryz.f103 [] nrc nfz [] ⟨[], ⟨[15], [9000, 9001, 9002], [], []⟩⟩ 11 (fun _ => some [.own (.int .i64), .obj, .obj, .obj])
theorem H103c : FnOk Tryz.prog 103 G103c := gn_ok Tryz.func103 (by kernel_rfl) (by kernel_rfl) trivial
noncomputable def G57c103 := gn Tryz.f57 [(103, G103c)] nrc nfz [(2, ⟨[0, 1, 7, 8], [9000, 9001, 9002], [], []⟩)] ⟨[], ⟨[19], [9000, 9001, 9002], [], []⟩⟩ 17 (fun l => (match l with | [_, .fn 103 _ _ _] => some [.own (.sl (.int .i64)), .obj] | _ => none))
theorem H57c103 : FnOk Tryz.prog 57 G57c103 := gn_ok Tryz.func57 (by kernel_rfl) (by kernel_rfl) ⟨H103c, trivial⟩
noncomputable def G26c103 := gn Tryz.f26 [(57, G57c103)] nrc nfz [] ⟨[], ⟨[9], [9000, 9001, 9002], [], []⟩⟩ 7 (fun l => (match l with | [_, .fn 103 _ _ _] => some [.own (.sl (.int .i64)), .obj] | _ => none))
theorem H26c103 : FnOk Tryz.prog 26 G26c103 := gn_ok Tryz.func26 (by kernel_rfl) (by kernel_rfl) ⟨H57c103, trivial⟩
noncomputable def G89 := gn Tryz.f89 [(102, G102), (26, G26c103)] (fun i => ([(3, [some (.sl (.int .i64))])] : List (Nat × List (Option DT))).lookup i) nfz [] ⟨[], ⟨[16], [], [], []⟩⟩ 15 (fun _ => some [.lend (.sl (.int .i64))])
theorem H89 : FnOk Tryz.prog 89 G89 := gn_ok Tryz.func89 (by kernel_rfl) (by kernel_rfl) ⟨H102, H26c103, trivial⟩
open Go.RowKit

noncomputable def G88 := gs Tryz.f88 [(89, G89)] nrc (fun i => i == 52) [(5, ⟨[0, 1, 2], [], [(.slot 7, 1007, .int .i64)], []⟩), (2000004, ⟨[0, 1, 2, 7], [], [], [(7, .sl (.int .i64))]⟩)] ⟨[(64, .nsl (.int .i64))], ⟨[64], [], [], []⟩⟩ 61 (fun l => (match l with | [_, _, .fn 89 _ _ _] => some [.own (.int .i64), .own (.int .i64), .obj] | _ => none))
theorem H88 : FnOk Tryz.prog 88 G88 := gs_ok Tryz.func88 (by kernel_rfl) (by kernel_rfl) ⟨H89, trivial⟩
open Go.RowKit
noncomputable def G34 := gn Tryz.f34 [] nrc nfz [] ⟨[], ⟨[15], [], [], []⟩⟩ 12 (fun _ => some [.lend (.int .i64), .lend (.int .i64), .lend (.int .i64)])
theorem H34 : FnOk Tryz.prog 34 G34 := gn_ok Tryz.func34 (by kernel_rfl) (by kernel_rfl) trivial
noncomputable def G62 := gn Tryz.f62 [(34, G34)] nrc nfz [] ⟨[], ⟨[13], [], [], []⟩⟩ 12 (fun _ => some [.lend (.pair (.int .i64) (.pair (.int .i64) (.unit)))])
theorem H62 : FnOk Tryz.prog 62 G62 := gn_ok Tryz.func62 (by kernel_rfl) (by kernel_rfl) ⟨H34, trivial⟩
noncomputable def G39c62 := gn Tryz.f39 [(62, G62)] nrc nfz [(2, ⟨[0, 1, 7, 8], [], [], []⟩)] ⟨[], ⟨[19], [], [], []⟩⟩ 17 (fun l => (match l with | [_, .fn 62 _ _ _] => some [.lend (.sl (.pair (.int .i64) (.pair (.int .i64) (.unit)))), .obj] | _ => none))
theorem H39c62 : FnOk Tryz.prog 39 G39c62 := gn_ok Tryz.func39 (by kernel_rfl) (by kernel_rfl) ⟨H62, trivial⟩
noncomputable def G61c62 := gn Tryz.f61 [(39, G39c62)] nrc nfz [] ⟨[], ⟨[9], [], [], []⟩⟩ 7 (fun l => (match l with | [_, .fn 62 _ _ _] => some [.lend (.sl (.pair (.int .i64) (.pair (.int .i64) (.unit)))), .obj] | _ => none))
theorem H61c62 : FnOk Tryz.prog 61 G61c62 := gn_ok Tryz.func61 (by kernel_rfl) (by kernel_rfl) ⟨H39c62, trivial⟩
noncomputable def G33 := gn Tryz.f33 [(61, G61c62)] nrc nfz [] ⟨[], ⟨[14], [], [], []⟩⟩ 13 (fun _ => some [.lend (.sl (.pair (.int .i64) (.pair (.int .i64) (.unit))))])
theorem H33 : FnOk Tryz.prog 33 G33 := gn_ok Tryz.func33 (by kernel_rfl) (by kernel_rfl) ⟨H61c62, trivial⟩
noncomputable def G85 := gn Tryz.f85 [] nrc nfz [] ⟨[], ⟨[6], [], [], []⟩⟩ 5 (fun _ => some [.lend (.int .i64)])
theorem H85 : FnOk Tryz.prog 85 G85 := gn_ok Tryz.func85 (by kernel_rfl) (by kernel_rfl) trivial
noncomputable def G65 := gn Tryz.f65 [(85, G85)] nrc nfz [] ⟨[], ⟨[20], [], [], []⟩⟩ 18 (fun _ => some [.lend (.int .i64), .lend (.int .i64)])
theorem H65 : FnOk Tryz.prog 65 G65 := gn_ok Tryz.func65 (by kernel_rfl) (by kernel_rfl) ⟨H85, trivial⟩
noncomputable def G64 := gn Tryz.f64 [(65, G65)] nrc nfz [] ⟨[], ⟨[10], [], [], []⟩⟩ 8 (fun _ => some [.lend (.pair (.int .i64) (.pair (.int .i64) (.unit))), .lend (.pair (.int .i64) (.pair (.int .i64) (.unit)))])
theorem H64 : FnOk Tryz.prog 64 G64 := gn_ok Tryz.func64 (by kernel_rfl) (by kernel_rfl) ⟨H65, trivial⟩
noncomputable def G66c := gn Tryz.f66 [(64, G64), (86, (F86c A86))] nrc nfz [(2, ⟨[0, 3, 4], [9000, 3, 9001], [], []⟩)] ⟨[], ⟨[], [9000, 9001], [(.fld 9000 0, 2000, .pair (.int .i64) (.pair (.int .i64) (.unit)))], []⟩⟩ 40 (fun _ => some [.obj, .lend (.pair (.int .i64) (.pair (.int .i64) (.unit)))])
theorem H66c : FnOk Tryz.prog 66 G66c := gn_ok Tryz.func66 (by kernel_rfl) (by kernel_rfl) ⟨H64, ok86, trivial⟩
noncomputable def G67c := gn Tryz.f67 [] nrc (fun i => ([22] : List Nat).contains i) [] ⟨[(26, .pair (.int .i64) (.pair (.int .i64) (.unit)))], ⟨[26, 27], [9000, 9001], [(.fld 9000 0, 2000, .pair (.int .i64) (.pair (.int .i64) (.unit)))], []⟩⟩ 25 (fun _ => some [.obj])
theorem H67c : FnOk Tryz.prog 67 G67c := gn_ok Tryz.func67 (by kernel_rfl) (by kernel_rfl) trivial
noncomputable def G36 := gn Tryz.f36 [(66, G66c), (67, G67c)] (fun i => ([(29, [none, none]), (28, [none, none])] : List (Nat × List (Option DT))).lookup i) nfz [(3, ⟨[0, 3, 4, 13, 14, 15], [], [], []⟩), (9, ⟨[0, 3, 4, 7, 30, 31], [29], [(.fld 29 0, 2100, .pair (.int .i64) (.pair (.int .i64) (.unit)))], []⟩), (12, ⟨[0, 3, 4, 7, 8, 30, 31, 34, 35, 36], [29], [(.fld 29 0, 2100, .pair (.int .i64) (.pair (.int .i64) (.unit)))], []⟩)] ⟨[], ⟨[62], [], [], []⟩⟩ 61 (fun _ => some [.lend (.sl (.pair (.int .i64) (.pair (.int .i64) (.unit))))])
theorem H36 : FnOk Tryz.prog 36 G36 := gn_ok Tryz.func36 (by kernel_rfl) (by kernel_rfl) ⟨H66c, H67c, trivial⟩
noncomputable def G10 := gn Tryz.f10 [(33, G33), (36, G36)] nrc nfz [] ⟨[], ⟨[12, 13], [], [], []⟩⟩ 11 (fun _ => some [.lend (.sl (.pair (.int .i64) (.pair (.int .i64) (.unit))))])
theorem H10 : FnOk Tryz.prog 10 G10 := gn_ok Tryz.func10 (by kernel_rfl) (by kernel_rfl) ⟨H33, H36, trivial⟩
noncomputable def G87 := gn Tryz.f87 [] nrc nfz [] ⟨[], ⟨[15], [], [], []⟩⟩ 12 (fun _ => some [.lend (.int .i64), .lend (.int .i64), .lend (.int .i64)])
theorem H87 : FnOk Tryz.prog 87 G87 := gn_ok Tryz.func87 (by kernel_rfl) (by kernel_rfl) trivial
noncomputable def G68 := gn Tryz.f68 [(87, G87), (88, G88)] nrc nfz [(5, ⟨[0, 4, 5], [], [], []⟩)] ⟨[(25, .sl (.int .i64))], ⟨[25, 26], [], [], []⟩⟩ 24 (fun _ => some [.own (.int .i64)])
theorem H68 : FnOk Tryz.prog 68 G68 := gn_ok Tryz.func68 (by kernel_rfl) (by kernel_rfl) ⟨H87, H88, trivial⟩
noncomputable def G125 := gn Tryz.f125 [] nrc nfz [] ⟨[], ⟨[15], [], [], []⟩⟩ 12 (fun _ => some [.lend (.int .i64), .lend (.int .i64), .lend (.int .i64)])
theorem H125 : FnOk Tryz.prog 125 G125 := gn_ok Tryz.func125 (by kernel_rfl) (by kernel_rfl) trivial
noncomputable def G126 := gn Tryz.f126 [] nrc nfz [] ⟨[], ⟨[8], [], [], []⟩⟩ 7 (fun _ => some [.lend (.pair (.int .i64) (.pair (.sl (.sl (.int .i64))) (.unit)))])
theorem H126 : FnOk Tryz.prog 126 G126 := gn_ok Tryz.func126 (by kernel_rfl) (by kernel_rfl) trivial
noncomputable def G140c := gn Tryz.f140 [(125, G125)] nrc nfz [] ⟨[], ⟨[10], [9000], [], []⟩⟩ 8 (fun _ => some [.own (.int .i64), .obj])
theorem H140c : FnOk Tryz.prog 140 G140c := gn_ok Tryz.func140 (by kernel_rfl) (by kernel_rfl) ⟨H125, trivial⟩
noncomputable def G57c140 := gn Tryz.f57 [(140, G140c)] nrc nfz [(2, ⟨[0, 1, 7, 8], [9000], [], []⟩)] ⟨[], ⟨[19], [9000], [], []⟩⟩ 17 (fun l => (match l with | [_, .fn 140 _ _ _] => some [.own (.sl (.int .i64)), .obj] | _ => none))
theorem H57c140 : FnOk Tryz.prog 57 G57c140 := gn_ok Tryz.func57 (by kernel_rfl) (by kernel_rfl) ⟨H140c, trivial⟩
noncomputable def G26c140 := gn Tryz.f26 [(57, G57c140)] nrc nfz [] ⟨[], ⟨[9], [9000], [], []⟩⟩ 7 (fun l => (match l with | [_, .fn 140 _ _ _] => some [.own (.sl (.int .i64)), .obj] | _ => none))
theorem H26c140 : FnOk Tryz.prog 26 G26c140 := gn_ok Tryz.func26 (by kernel_rfl) (by kernel_rfl) ⟨H57c140, trivial⟩
noncomputable def G128 := gn Tryz.f128 [(126, G126), (26, G26c140)] nrc nfz [] ⟨[], ⟨[15], [], [], []⟩⟩ 13 (fun _ => some [.lend (.pair (.int .i64) (.pair (.sl (.sl (.int .i64))) (.unit))), .lend (.sl (.int .i64))])
theorem H128 : FnOk Tryz.prog 128 G128 := gn_ok Tryz.func128 (by kernel_rfl) (by kernel_rfl) ⟨H126, H26c140, trivial⟩
noncomputable def G127c := gn Tryz.f127 [(126, G126)] nrc nfz [] ⟨[], ⟨[9], [9000], [], []⟩⟩ 7 (fun _ => some [.own (.sl (.int .i64)), .obj])
theorem H127c : FnOk Tryz.prog 127 G127c := gn_ok Tryz.func127 (by kernel_rfl) (by kernel_rfl) ⟨H126, trivial⟩
noncomputable def G99c127 := gn Tryz.f99 [(127, G127c)] nrc nfz [(2, ⟨[0, 1, 7, 8], [9000], [], []⟩)] ⟨[], ⟨[19], [9000], [], []⟩⟩ 17 (fun l => (match l with | [_, .fn 127 _ _ _] => some [.own (.sl (.sl (.int .i64))), .obj] | _ => none))
theorem H99c127 : FnOk Tryz.prog 99 G99c127 := gn_ok Tryz.func99 (by kernel_rfl) (by kernel_rfl) ⟨H127c, trivial⟩
noncomputable def G82c127 := gn Tryz.f82 [(99, G99c127)] nrc nfz [] ⟨[], ⟨[9], [9000], [], []⟩⟩ 7 (fun l => (match l with | [_, .fn 127 _ _ _] => some [.own (.sl (.sl (.int .i64))), .obj] | _ => none))
theorem H82c127 : FnOk Tryz.prog 82 G82c127 := gn_ok Tryz.func82 (by kernel_rfl) (by kernel_rfl) ⟨H99c127, trivial⟩
noncomputable def G104 := gn Tryz.f104 [(125, G125), (126, G126), (128, G128), (82, G82c127)] nrc nfz [(10, ⟨[1, 33, 34, 35], [1], [], []⟩)] ⟨[], ⟨[46], [], [], []⟩⟩ 45 (fun _ => some [.lend (.pair (.int .i64) (.pair (.sl (.sl (.int .i64))) (.unit)))])
theorem H104 : FnOk Tryz.prog 104 G104 := gn_ok Tryz.func104 (by kernel_rfl) (by kernel_rfl) ⟨H125, H126, H128, H82c127, trivial⟩
noncomputable def G105 := gn Tryz.f105 [(125, G125)] nrc nfz [(5, ⟨[2, 5, 11, 12, 13], [2], [], []⟩)] ⟨[], ⟨[31], [], [], []⟩⟩ 29 (fun _ => some [.lend (.pair (.int .i64) (.pair (.sl (.sl (.int .i64))) (.unit))), .lend (.sl (.int .i64))])
theorem H105 : FnOk Tryz.prog 105 G105 := gn_ok Tryz.func105 (by kernel_rfl) (by kernel_rfl) ⟨H125, trivial⟩
noncomputable def G129 := gn Tryz.f129 [] nrc nfz [(3, ⟨[2, 3, 8, 9, 10], [2, 3], [], []⟩), (6, ⟨[2, 3, 8, 9, 10, 14, 15, 16], [2, 3], [], []⟩)] ⟨[(31, .arr 8 (.int .u8))], ⟨[31], [], [], []⟩⟩ 30 (fun _ => some [.lend (.sl (.sl (.int .i64)))])
theorem H129 : FnOk Tryz.prog 129 G129 := gn_ok Tryz.func129 (by kernel_rfl) (by kernel_rfl) trivial
noncomputable def G106 := gn Tryz.f106 [(129, G129)] nrc nfz [(3, ⟨[2, 4, 5, 10, 11, 12], [2, 4, 5], [], []⟩), (6, ⟨[2, 4, 5, 10, 11, 12, 22, 23], [2, 4, 5], [], []⟩)] ⟨[(36, .arr 8 (.int .u8))], ⟨[36], [], [], []⟩⟩ 34 (fun _ => some [.lend (.pair (.int .i64) (.pair (.sl (.sl (.int .i64))) (.unit))), .lend (.sl (.int .i64))])
theorem H106 : FnOk Tryz.prog 106 G106 := gn_ok Tryz.func106 (by kernel_rfl) (by kernel_rfl) ⟨H129, trivial⟩
noncomputable def G90 := gn Tryz.f90 [(104, G104), (105, G105), (106, G106)] nrc nfz [(8, ⟨[7, 22, 23], [], [], []⟩)] ⟨[], ⟨[35, 36], [], [], []⟩⟩ 33 (fun _ => some [.lend (.pair (.int .i64) (.pair (.sl (.sl (.int .i64))) (.unit))), .lend (.sl (.int .i64))])
theorem H90 : FnOk Tryz.prog 90 G90 := gn_ok Tryz.func90 (by kernel_rfl) (by kernel_rfl) ⟨H104, H105, H106, trivial⟩
noncomputable def G141 := gn Tryz.f141 [] nrc nfz [] ⟨[], ⟨[15], [], [], []⟩⟩ 12 (fun _ => some [.lend (.int .i64), .lend (.int .i64), .lend (.int .i64)])
theorem H141 : FnOk Tryz.prog 141 G141 := gn_ok Tryz.func141 (by kernel_rfl) (by kernel_rfl) trivial
noncomputable def G130 := gn Tryz.f130 [(141, G141)] nrc nfz [(5, ⟨[0, 1, 6, 16, 17], [], [], []⟩), (9, ⟨[1, 6, 24, 25], [], [], []⟩)] ⟨[], ⟨[32, 33], [], [], []⟩⟩ 30 (fun _ => some [.lend (.int .i64), .lend (.int .i64)])
theorem H130 : FnOk Tryz.prog 130 G130 := gn_ok Tryz.func130 (by kernel_rfl) (by kernel_rfl) ⟨H141, trivial⟩
noncomputable def G147 := gn Tryz.f147 [] nrc nfz [] ⟨[], ⟨[15], [], [], []⟩⟩ 12 (fun _ => some [.lend (.int .i64), .lend (.int .i64), .lend (.int .i64)])
theorem H147 : FnOk Tryz.prog 147 G147 := gn_ok Tryz.func147 (by kernel_rfl) (by kernel_rfl) trivial
noncomputable def G148 := gn Tryz.f148 [] nrc nfz [(1, ⟨[0, 1], [], [], []⟩)] ⟨[], ⟨[12], [], [], []⟩⟩ 10 (fun _ => some [.lend (.int .i64), .lend (.int .i64)])
theorem H148 : FnOk Tryz.prog 148 G148 := gn_ok Tryz.func148 (by kernel_rfl) (by kernel_rfl) trivial
noncomputable def G142 := gn Tryz.f142 [(147, G147), (148, G148)] nrc (fun i => ([26] : List Nat).contains i) [(7, ⟨[0, 1, 6, 28, 29], [26], [], []⟩), (10, ⟨[0, 1, 6, 7, 28, 29, 32, 33], [26], [], []⟩)] ⟨[(55, .sl (.sl (.int .i64)))], ⟨[55, 56], [], [], []⟩⟩ 53 (fun _ => some [.own (.int .i64), .own (.int .i64)])
theorem H142 : FnOk Tryz.prog 142 G142 := gn_ok Tryz.func142 (by kernel_rfl) (by kernel_rfl) ⟨H147, H148, trivial⟩
noncomputable def G168 := gn Tryz.f168 [] nrc nfz [(3, ⟨[0, 3, 11, 12], [], [], []⟩), (7, ⟨[0, 3, 4, 5, 6, 11, 12, 16, 17], [5, 6], [], []⟩)] ⟨[], ⟨[49], [], [], []⟩⟩ 48 (fun _ => some [.lend (.sl (.sl (.int .i64)))])
theorem H168 : FnOk Tryz.prog 168 G168 := gn_ok Tryz.func168 (by kernel_rfl) (by kernel_rfl) trivial
noncomputable def G167c := gn Tryz.f167 [(147, G147)] nrc nfz [] ⟨[], ⟨[9], [9000], [], []⟩⟩ 7 (fun _ => some [.lend (.int .i64), .obj])
theorem H167c : FnOk Tryz.prog 167 G167c := gn_ok Tryz.func167 (by kernel_rfl) (by kernel_rfl) ⟨H147, trivial⟩
noncomputable def G57c167 := gn Tryz.f57 [(167, G167c)] nrc nfz [(2, ⟨[0, 1, 7, 8], [9000], [], []⟩)] ⟨[], ⟨[19], [9000], [], []⟩⟩ 17 (fun l => (match l with | [_, .fn 167 _ _ _] => some [.lend (.sl (.int .i64)), .obj] | _ => none))
theorem H57c167 : FnOk Tryz.prog 57 G57c167 := gn_ok Tryz.func57 (by kernel_rfl) (by kernel_rfl) ⟨H167c, trivial⟩
noncomputable def G26c167 := gn Tryz.f26 [(57, G57c167)] nrc nfz [] ⟨[], ⟨[9], [9000], [], []⟩⟩ 7 (fun l => (match l with | [_, .fn 167 _ _ _] => some [.lend (.sl (.int .i64)), .obj] | _ => none))
theorem H26c167 : FnOk Tryz.prog 26 G26c167 := gn_ok Tryz.func26 (by kernel_rfl) (by kernel_rfl) ⟨H57c167, trivial⟩
noncomputable def G58c := gn Tryz.f58 [] nrc (fun i => ([25] : List Nat).contains i) [] ⟨[], ⟨[], [], [(.slot 27, 1500, .int .i64)], []⟩⟩ 25 (fun _ => some [.obj, .lend (.int .i64)])
theorem H58c : FnOk Tryz.prog 58 G58c := gn_ok Tryz.func58 (by kernel_rfl) (by kernel_rfl) trivial
noncomputable def G27 := gn Tryz.f27 [(58, G58c)] nrc nfz [(3, ⟨[0, 3, 9, 10, 11], [], [], []⟩), (11, ⟨[25, 26, 27], [], [(.slot 6, 1006, .int .i64)], []⟩)] ⟨[(36, .sl (.int .i64))], ⟨[36], [], [], []⟩⟩ 35 (fun _ => some [.own (.sl (.sl (.int .i64)))])
theorem H27 : FnOk Tryz.prog 27 G27 := gn_ok Tryz.func27 (by kernel_rfl) (by kernel_rfl) ⟨H58c, trivial⟩
noncomputable def G166c := gn Tryz.f166 [] nrc nfz [] ⟨[], ⟨[8], [9000], [], []⟩⟩ 6 (fun _ => some [.lend (.sl (.int .i64)), .obj])
theorem H166c : FnOk Tryz.prog 166 G166c := gn_ok Tryz.func166 (by kernel_rfl) (by kernel_rfl) trivial
noncomputable def G99c166 := gn Tryz.f99 [(166, G166c)] nrc nfz [(2, ⟨[0, 1, 7, 8], [9000], [], []⟩)] ⟨[], ⟨[19], [9000], [], []⟩⟩ 17 (fun l => (match l with | [_, .fn 166 _ _ _] => some [.lend (.sl (.sl (.int .i64))), .obj] | _ => none))
theorem H99c166 : FnOk Tryz.prog 99 G99c166 := gn_ok Tryz.func99 (by kernel_rfl) (by kernel_rfl) ⟨H166c, trivial⟩
noncomputable def G82c166 := gn Tryz.f82 [(99, G99c166)] nrc nfz [] ⟨[], ⟨[9], [9000], [], []⟩⟩ 7 (fun l => (match l with | [_, .fn 166 _ _ _] => some [.lend (.sl (.sl (.int .i64))), .obj] | _ => none))
theorem H82c166 : FnOk Tryz.prog 82 G82c166 := gn_ok Tryz.func82 (by kernel_rfl) (by kernel_rfl) ⟨H99c166, trivial⟩
noncomputable def G159 := gn Tryz.f159 [(147, G147), (168, G168), (26, G26c167), (27, G27), (82, G82c166)] nrc nfz [] ⟨[], ⟨[23], [], [], []⟩⟩ 22 (fun _ => some [.lend (.sl (.sl (.int .i64)))])
theorem H159 : FnOk Tryz.prog 159 G159 := gn_ok Tryz.func159 (by kernel_rfl) (by kernel_rfl) ⟨H147, H168, H26c167, H27, H82c166, trivial⟩
noncomputable def G160c := gn Tryz.f160 [(147, G147)] nrc nfz [] ⟨[], ⟨[10], [9000], [], []⟩⟩ 8 (fun _ => some [.own (.int .i64), .obj])
theorem H160c : FnOk Tryz.prog 160 G160c := gn_ok Tryz.func160 (by kernel_rfl) (by kernel_rfl) ⟨H147, trivial⟩
noncomputable def G57c160 := gn Tryz.f57 [(160, G160c)] nrc nfz [(2, ⟨[0, 1, 7, 8], [9000], [], []⟩)] ⟨[], ⟨[19], [9000], [], []⟩⟩ 17 (fun l => (match l with | [_, .fn 160 _ _ _] => some [.own (.sl (.int .i64)), .obj] | _ => none))
theorem H57c160 : FnOk Tryz.prog 57 G57c160 := gn_ok Tryz.func57 (by kernel_rfl) (by kernel_rfl) ⟨H160c, trivial⟩
noncomputable def G26c160 := gn Tryz.f26 [(57, G57c160)] nrc nfz [] ⟨[], ⟨[9], [9000], [], []⟩⟩ 7 (fun l => (match l with | [_, .fn 160 _ _ _] => some [.own (.sl (.int .i64)), .obj] | _ => none))
theorem H26c160 : FnOk Tryz.prog 26 G26c160 := gn_ok Tryz.func26 (by kernel_rfl) (by kernel_rfl) ⟨H57c160, trivial⟩
noncomputable def G153 := gn Tryz.f153 [(159, G159), (26, G26c160)] nrc nfz [] ⟨[], ⟨[20], [], [], []⟩⟩ 18 (fun _ => some [.lend (.sl (.sl (.int .i64))), .lend (.sl (.int .i64))])
theorem H153 : FnOk Tryz.prog 153 G153 := gn_ok Tryz.func153 (by kernel_rfl) (by kernel_rfl) ⟨H159, H26c160, trivial⟩
noncomputable def G162c := gn Tryz.f162 [] nrc nfz [] ⟨[], ⟨[13], [9000], [], []⟩⟩ 10 (fun _ => some [.own (.int .i64), .own (.int .i64), .obj])
theorem H162c : FnOk Tryz.prog 162 G162c := gn_ok Tryz.func162 (by kernel_rfl) (by kernel_rfl) trivial
noncomputable def G161c162 := gn Tryz.f161 [(162, G162c)] nrc nfz [(2, ⟨[0, 2, 9, 10, 11], [9000], [], []⟩)] ⟨[], ⟨[21], [9000], [], []⟩⟩ 18 (fun l => (match l with | [_, _, .fn 162 _ _ _] => some [.own (.int .i64), .own (.sl (.int .i64)), .obj] | _ => none))
theorem H161c162 : FnOk Tryz.prog 161 G161c162 := gn_ok Tryz.func161 (by kernel_rfl) (by kernel_rfl) ⟨H162c, trivial⟩
noncomputable def G154 := gn Tryz.f154 [(161, G161c162)] nrc nfz [] ⟨[], ⟨[11], [], [], []⟩⟩ 8 (fun _ => some [.lend (.sl (.sl (.int .i64))), .lend (.int .i64), .lend (.sl (.int .i64))])
theorem H154 : FnOk Tryz.prog 154 G154 := gn_ok Tryz.func154 (by kernel_rfl) (by kernel_rfl) ⟨H161c162, trivial⟩
noncomputable def G149 := gn Tryz.f149 [(153, G153), (154, G154)] nrc nfz [] ⟨[], ⟨[16, 17], [], [], []⟩⟩ 14 (fun _ => some [.lend (.sl (.sl (.int .i64))), .lend (.sl (.int .i64))])
theorem H149 : FnOk Tryz.prog 149 G149 := gn_ok Tryz.func149 (by kernel_rfl) (by kernel_rfl) ⟨H153, H154, trivial⟩
noncomputable def G63 := gn Tryz.f63 [] nrc nfz [(2, ⟨[0, 1, 7, 8], [], [], []⟩)] ⟨[], ⟨[19], [], [], []⟩⟩ 17 (fun _ => some [.lend (.sl (.int .i64)), .lend (.int .i64)])
theorem H63 : FnOk Tryz.prog 63 G63 := gn_ok Tryz.func63 (by kernel_rfl) (by kernel_rfl) trivial
noncomputable def G143 := gn Tryz.f143 [(149, G149), (63, G63)] nrc nfz [] ⟨[], ⟨[22, 23], [], [], []⟩⟩ 20 (fun _ => some [.lend (.sl (.sl (.int .i64))), .lend (.sl (.int .i64))])
theorem H143 : FnOk Tryz.prog 143 G143 := gn_ok Tryz.func143 (by kernel_rfl) (by kernel_rfl) ⟨H149, H63, trivial⟩
noncomputable def G155 := gn Tryz.f155 [] nrc nfz [] ⟨[], ⟨[15], [], [], []⟩⟩ 12 (fun _ => some [.lend (.int .i64), .lend (.int .i64), .lend (.int .i64)])
theorem H155 : FnOk Tryz.prog 155 G155 := gn_ok Tryz.func155 (by kernel_rfl) (by kernel_rfl) trivial
noncomputable def G156c := gn Tryz.f156 [(155, G155)] nrc nfz [] ⟨[], ⟨[10], [9000], [], []⟩⟩ 8 (fun _ => some [.own (.int .i64), .obj])
theorem H156c : FnOk Tryz.prog 156 G156c := gn_ok Tryz.func156 (by kernel_rfl) (by kernel_rfl) ⟨H155, trivial⟩
noncomputable def G57c156 := gn Tryz.f57 [(156, G156c)] nrc nfz [(2, ⟨[0, 1, 7, 8], [9000], [], []⟩)] ⟨[], ⟨[19], [9000], [], []⟩⟩ 17 (fun l => (match l with | [_, .fn 156 _ _ _] => some [.own (.sl (.int .i64)), .obj] | _ => none))
theorem H57c156 : FnOk Tryz.prog 57 G57c156 := gn_ok Tryz.func57 (by kernel_rfl) (by kernel_rfl) ⟨H156c, trivial⟩
noncomputable def G26c156 := gn Tryz.f26 [(57, G57c156)] nrc nfz [] ⟨[], ⟨[9], [9000], [], []⟩⟩ 7 (fun l => (match l with | [_, .fn 156 _ _ _] => some [.own (.sl (.int .i64)), .obj] | _ => none))
theorem H26c156 : FnOk Tryz.prog 26 G26c156 := gn_ok Tryz.func26 (by kernel_rfl) (by kernel_rfl) ⟨H57c156, trivial⟩
noncomputable def G150 := gn Tryz.f150 [(155, G155), (26, G26c156)] nrc nfz [(8, ⟨[1, 21, 22, 23], [1], [], []⟩)] ⟨[], ⟨[38], [], [], []⟩⟩ 37 (fun _ => some [.lend (.pair (.int .i64) (.pair (.sl (.sl (.int .i64))) (.unit)))])
theorem H150 : FnOk Tryz.prog 150 G150 := gn_ok Tryz.func150 (by kernel_rfl) (by kernel_rfl) ⟨H155, H26c156, trivial⟩
noncomputable def G151 := gn Tryz.f151 [(155, G155)] nrc nfz [(4, ⟨[2, 6, 7, 10, 11, 12], [2], [], []⟩)] ⟨[], ⟨[34, 35], [], [], []⟩⟩ 32 (fun _ => some [.lend (.pair (.int .i64) (.pair (.sl (.sl (.int .i64))) (.unit))), .lend (.sl (.int .i64))])
theorem H151 : FnOk Tryz.prog 151 G151 := gn_ok Tryz.func151 (by kernel_rfl) (by kernel_rfl) ⟨H155, trivial⟩
noncomputable def G163 := gn Tryz.f163 [] nrc nfz [] ⟨[], ⟨[6], [], [], []⟩⟩ 4 (fun _ => some [.lend (.int .i64), .lend (.int .i64)])
theorem H163 : FnOk Tryz.prog 163 G163 := gn_ok Tryz.func163 (by kernel_rfl) (by kernel_rfl) trivial
noncomputable def G169 := gn Tryz.f169 [] nrc nfz [] ⟨[], ⟨[10], [], [], []⟩⟩ 8 (fun _ => some [.lend (.int .u8), .lend (.int .i64)])
theorem H169 : FnOk Tryz.prog 169 G169 := gn_ok Tryz.func169 (by kernel_rfl) (by kernel_rfl) trivial
noncomputable def G164 := gn Tryz.f164 [(169, G169)] nrc nfz [(4, ⟨[4, 8], [], [(.slot 3, 1003, .int .i64)], []⟩)] ⟨[(20, .sl (.int .i64))], ⟨[20], [], [], []⟩⟩ 19 (fun _ => some [.own (.int .u8)])
theorem H164 : FnOk Tryz.prog 164 G164 := gn_ok Tryz.func164 (by kernel_rfl) (by kernel_rfl) ⟨H169, trivial⟩
noncomputable def G186 := gn Tryz.f186 [] nrc nfz [] ⟨[], ⟨[9], [], [], []⟩⟩ 7 (fun _ => some [.lend (.sl (.int .i64)), .lend (.int .i64)])
theorem H186 : FnOk Tryz.prog 186 G186 := gn_ok Tryz.func186 (by kernel_rfl) (by kernel_rfl) trivial
noncomputable def G157 := gn Tryz.f157 [(163, G163), (164, G164), (186, G186)] nrc nfz [(5, ⟨[6, 7, 13, 14, 15], [], [], []⟩)] ⟨[], ⟨[35], [], [], []⟩⟩ 33 (fun _ => some [.lend (.int .u8), .lend (.ifc 185 (.int .i64) (.ifc 187 (.sl (.int .i64)) (.ifn)))])
theorem H157 : FnOk Tryz.prog 157 G157 := gn_ok Tryz.func157 (by kernel_rfl) (by kernel_rfl) ⟨H163, H164, H186, trivial⟩
noncomputable def G165 := gn Tryz.f165 [] nrc nfz [(5, ⟨[0, 3, 4], [], [], []⟩)] ⟨[], ⟨[25], [], [], []⟩⟩ 24 (fun _ => some [.lend (.sl (.int .i64))])
theorem H165 : FnOk Tryz.prog 165 G165 := gn_ok Tryz.func165 (by kernel_rfl) (by kernel_rfl) trivial
noncomputable def G54 := gn Tryz.f54 [] nrc nfz [(5, ⟨[0, 3, 4], [], [], []⟩)] ⟨[], ⟨[25], [], [], []⟩⟩ 24 (fun _ => some [.lend (.sl (.int .i64))])
theorem H54 : FnOk Tryz.prog 54 G54 := gn_ok Tryz.func54 (by kernel_rfl) (by kernel_rfl) trivial
noncomputable def G158 := gn Tryz.f158 [(165, G165), (54, G54)] nrc nfz [] ⟨[(22, .ifc 185 (.int .i64) (.ifc 187 (.sl (.int .i64)) (.ifn)))], ⟨[22], [], [], []⟩⟩ 20 (fun _ => some [.own (.pair (.int .i64) (.pair (.sl (.sl (.int .i64))) (.unit))), .own (.int .i64)])
theorem H158 : FnOk Tryz.prog 158 G158 := gn_ok Tryz.func158 (by kernel_rfl) (by kernel_rfl) ⟨H165, H54, trivial⟩
noncomputable def G44 := gn Tryz.f44 [] nrc nfz [] ⟨[(9, .csl (.int .i64))], ⟨[9], [], [], []⟩⟩ 8 (fun _ => some [.own (.sl (.int .i64))])
theorem H44 : FnOk Tryz.prog 44 G44 := gn_ok Tryz.func44 (by kernel_rfl) (by kernel_rfl) trivial
noncomputable def G152 := gn Tryz.f152 [(157, G157), (158, G158), (44, G44)] nrc (fun i => ([27, 29] : List Nat).contains i) [(4, ⟨[1, 2, 6], [2, 13], [(.slot 7, 1007, .int .u8), (.slot 8, 1008, .sl (.int .i64))], []⟩), (10, ⟨[1, 2, 6, 9, 10, 38, 39], [2, 13], [(.slot 7, 1007, .int .u8), (.slot 8, 1008, .sl (.int .i64))], []⟩)] ⟨[(66, .sl (.int .i64))], ⟨[66, 67], [], [], []⟩⟩ 64 (fun _ => some [.own (.pair (.int .i64) (.pair (.sl (.sl (.int .i64))) (.unit))), .own (.int .u8)])
theorem H152 : FnOk Tryz.prog 152 G152 := gn_ok Tryz.func152 (by kernel_rfl) (by kernel_rfl) ⟨H157, H158, H44, trivial⟩
noncomputable def G144 := gn Tryz.f144 [(150, G150), (151, G151), (152, G152)] nrc nfz [] ⟨[(34, .sl (.int .i64))], ⟨[34, 35], [], [], []⟩⟩ 32 (fun _ => some [.own (.pair (.int .i64) (.pair (.sl (.sl (.int .i64))) (.unit))), .own (.sl (.int .i64))])
theorem H144 : FnOk Tryz.prog 144 G144 := gn_ok Tryz.func144 (by kernel_rfl) (by kernel_rfl) ⟨H150, H151, H152, trivial⟩
noncomputable def G131 := gn Tryz.f131 [(142, G142), (143, G143), (144, G144)] nrc nfz [] ⟨[], ⟨[49], [], [], []⟩⟩ 49 (fun _ => some [])
theorem H131 : FnOk Tryz.prog 131 G131 := gn_ok Tryz.func131 (by kernel_rfl) (by kernel_rfl) ⟨H142, H143, H144, trivial⟩
theorem works131 : G131.ans [] [] = some ([.dv .bool true], []) := by kernel_rfl
def g131 : FnC := { ρ := Unit, sig := fun _ => some [], ans := fun l o => (match l, o with | [], [] => some () | _, _ => none), enc := fun _ _ _ => .dv .bool true, obs := fun _ _ _ => [] }
theorem h131 : FnOk Tryz.prog 131 g131 := fun args o x h => by
 simp only [g131] at h
 split at h
 ·exact H131 [] [] _ works131
 ·cases h
noncomputable def G107 := gn Tryz.f107 [(130, G130), (131, g131)] nrc nfz [] ⟨[], ⟨[16], [], [], []⟩⟩ 16 (fun _ => some [])
theorem H107 : FnOk Tryz.prog 107 G107 := gn_ok Tryz.func107 (by kernel_rfl) (by kernel_rfl) ⟨H130, h131, trivial⟩
theorem works107 : G107.ans [] [] = some ([.dv .bool true], []) := by kernel_rfl
def g107 : FnC := { ρ := Unit, sig := fun _ => some [], ans := fun l o => (match l, o with | [], [] => some () | _, _ => none), enc := fun _ _ _ => .dv .bool true, obs := fun _ _ _ => [] }
theorem h107 : FnOk Tryz.prog 107 g107 := fun args o x h => by
 simp only [g107] at h
 split at h
 ·exact H107 [] [] _ works107
 ·cases h
noncomputable def G52 := gn Tryz.f52 [] nrc nfz [] ⟨[], ⟨[15], [], [], []⟩⟩ 12 (fun _ => some [.lend (.int .i64), .lend (.int .i64), .lend (.int .i64)])
theorem H52 : FnOk Tryz.prog 52 G52 := gn_ok Tryz.func52 (by kernel_rfl) (by kernel_rfl) trivial
noncomputable def G84 := gn Tryz.f84 [(52, G52)] nrc nfz [] ⟨[], ⟨[6], [], [], []⟩⟩ 5 (fun _ => some [.lend (.int .i64)])
theorem H84 : FnOk Tryz.prog 84 G84 := gn_ok Tryz.func84 (by kernel_rfl) (by kernel_rfl) ⟨H52, trivial⟩
noncomputable def G57c84 := gn Tryz.f57 [(84, G84)] nrc nfz [(2, ⟨[0, 1, 7, 8], [], [], []⟩)] ⟨[], ⟨[19], [], [], []⟩⟩ 17 (fun l => (match l with | [_, .fn 84 _ _ _] => some [.lend (.sl (.int .i64)), .obj] | _ => none))
theorem H57c84 : FnOk Tryz.prog 57 G57c84 := gn_ok Tryz.func57 (by kernel_rfl) (by kernel_rfl) ⟨H84, trivial⟩
noncomputable def G26c84 := gn Tryz.f26 [(57, G57c84)] nrc nfz [] ⟨[], ⟨[9], [], [], []⟩⟩ 7 (fun l => (match l with | [_, .fn 84 _ _ _] => some [.lend (.sl (.int .i64)), .obj] | _ => none))
theorem H26c84 : FnOk Tryz.prog 26 G26c84 := gn_ok Tryz.func26 (by kernel_rfl) (by kernel_rfl) ⟨H57c84, trivial⟩
noncomputable def G83c := gn Tryz.f83 [] nrc nfz [] ⟨[], ⟨[11], [9000], [], []⟩⟩ 9 (fun _ => some [.own (.sl (.int .i64)), .obj])
theorem H83c : FnOk Tryz.prog 83 G83c := gn_ok Tryz.func83 (by kernel_rfl) (by kernel_rfl) trivial
noncomputable def G99c83 := gn Tryz.f99 [(83, G83c)] nrc nfz [(2, ⟨[0, 1, 7, 8], [9000], [], []⟩)] ⟨[], ⟨[19], [9000], [], []⟩⟩ 17 (fun l => (match l with | [_, .fn 83 _ _ _] => some [.own (.sl (.sl (.int .i64))), .obj] | _ => none))
theorem H99c83 : FnOk Tryz.prog 99 G99c83 := gn_ok Tryz.func99 (by kernel_rfl) (by kernel_rfl) ⟨H83c, trivial⟩
noncomputable def G82c83 := gn Tryz.f82 [(99, G99c83)] nrc nfz [] ⟨[], ⟨[9], [9000], [], []⟩⟩ 7 (fun l => (match l with | [_, .fn 83 _ _ _] => some [.own (.sl (.sl (.int .i64))), .obj] | _ => none))
theorem H82c83 : FnOk Tryz.prog 82 G82c83 := gn_ok Tryz.func82 (by kernel_rfl) (by kernel_rfl) ⟨H99c83, trivial⟩
noncomputable def G51 := gn Tryz.f51 [(26, G26c84), (27, G27), (52, G52), (82, G82c83)] nrc nfz [] ⟨[], ⟨[27], [], [], []⟩⟩ 26 (fun _ => some [.lend (.sl (.sl (.int .i64)))])
theorem H51 : FnOk Tryz.prog 51 G51 := gn_ok Tryz.func51 (by kernel_rfl) (by kernel_rfl) ⟨H26c84, H27, H52, H82c83, trivial⟩
noncomputable def G23 := gn Tryz.f23 [(51, G51), (52, G52)] nrc nfz [] ⟨[], ⟨[16], [], [], []⟩⟩ 14 (fun _ => some [.lend (.sl (.sl (.int .i64))), .lend (.int .i64)])
theorem H23 : FnOk Tryz.prog 23 G23 := gn_ok Tryz.func23 (by kernel_rfl) (by kernel_rfl) ⟨H51, H52, trivial⟩
noncomputable def G56 := gn Tryz.f56 [] nrc nfz [] ⟨[], ⟨[4], [], [], []⟩⟩ 3 (fun _ => some [.lend (.int .i64)])
theorem H56 : FnOk Tryz.prog 56 G56 := gn_ok Tryz.func56 (by kernel_rfl) (by kernel_rfl) trivial
noncomputable def G55c56 := gn Tryz.f55 [(56, G56)] nrc nfz [(3, ⟨[1, 5, 8, 9, 10], [], [], []⟩)] ⟨[], ⟨[21], [], [], []⟩⟩ 19 (fun l => (match l with | [_, .fn 56 _ _ _] => some [.lend (.sl (.int .i64)), .obj] | _ => none))
theorem H55c56 : FnOk Tryz.prog 55 G55c56 := gn_ok Tryz.func55 (by kernel_rfl) (by kernel_rfl) ⟨H56, trivial⟩
noncomputable def G60c := gn Tryz.f60 [] nrc nfz [] ⟨[], ⟨[8], [9000], [], []⟩⟩ 6 (fun _ => some [.lend (.sl (.int .i64)), .obj])
theorem H60c : FnOk Tryz.prog 60 G60c := gn_ok Tryz.func60 (by kernel_rfl) (by kernel_rfl) trivial
noncomputable def G59c60 := gn Tryz.f59 [(60, G60c)] nrc nfz [(3, ⟨[1, 5, 8, 9, 10], [9000], [], []⟩)] ⟨[], ⟨[21], [9000], [], []⟩⟩ 19 (fun l => (match l with | [_, .fn 60 _ _ _] => some [.lend (.sl (.sl (.int .i64))), .obj] | _ => none))
theorem H59c60 : FnOk Tryz.prog 59 G59c60 := gn_ok Tryz.func59 (by kernel_rfl) (by kernel_rfl) ⟨H60c, trivial⟩
noncomputable def G31 := gn Tryz.f31 [(55, G55c56), (59, G59c60)] nrc nfz [(2, ⟨[0, 3, 7, 8, 9], [], [(.slot 2, 1002, .int .i64)], []⟩), (7, ⟨[0, 2, 22, 23], [1002], [(.slot 3, 1003, .int .i64)], []⟩)] ⟨[], ⟨[], [], [(.slot 35, 1500, .int .i64), (.slot 36, 1501, .int .i64)], []⟩⟩ 34 (fun _ => some [.lend (.sl (.sl (.int .i64)))])
theorem H31 : FnOk Tryz.prog 31 G31 := gn_ok Tryz.func31 (by kernel_rfl) (by kernel_rfl) ⟨H55c56, H59c60, trivial⟩
noncomputable def G48 := gn Tryz.f48 [(31, G31)] (fun i => ([(5, [some (.sl (.int .i64))]), (6, [some (.sl (.int .i64))]), (15, [some (.int .i64), none]), (19, [some (.int .i64), none]), (21, [some (.int .i64), none]), (22, [])] : List (Nat × List (Option DT))).lookup i) nfz [] ⟨[], ⟨[23], [3, 5, 6, 22], [], []⟩⟩ 21 (fun _ => some [.own (.sl (.sl (.int .i64))), .own (.int .i64)])
theorem H48 : FnOk Tryz.prog 48 G48 := gn_ok Tryz.func48 (by kernel_rfl) (by kernel_rfl) ⟨H31, trivial⟩
noncomputable def G77c := gn Tryz.f77 [] nrc nfz [] ⟨[], ⟨[8], [9000], [], []⟩⟩ 6 (fun _ => some [.own (.int .i64), .obj])
theorem H77c : FnOk Tryz.prog 77 G77c := gn_ok Tryz.func77 (by kernel_rfl) (by kernel_rfl) trivial
noncomputable def G78c := gn Tryz.f78 [] nrc nfz [] ⟨[], ⟨[8], [9000], [], []⟩⟩ 6 (fun _ => some [.own (.int .i64), .obj])
theorem H78c : FnOk Tryz.prog 78 G78c := gn_ok Tryz.func78 (by kernel_rfl) (by kernel_rfl) trivial
noncomputable def G80 := gn Tryz.f80 [] nrc nfz [] ⟨[], ⟨[11], [], [], []⟩⟩ 9 (fun _ => some [.lend (.int .i64), .lend (.int .i64)])
theorem H80 : FnOk Tryz.prog 80 G80 := gn_ok Tryz.func80 (by kernel_rfl) (by kernel_rfl) trivial
noncomputable def G79c := gn Tryz.f79 [(55, G55c56), (80, G80)] nrc nfz [] ⟨[], ⟨[9], [9000, 9001], [], []⟩⟩ 6 (fun _ => some [.own (.int .i64), .obj, .obj])
theorem H79c : FnOk Tryz.prog 79 G79c := gn_ok Tryz.func79 (by kernel_rfl) (by kernel_rfl) ⟨H55c56, H80, trivial⟩
noncomputable def G20 := gn Tryz.f20 [(23, G23), (48, G48), (77, G77c), (78, G78c), (79, G79c)] (fun i => ([(9, [some (.int .i64), none]), (24, [some (.int .i64), none])] : List (Nat × List (Option DT))).lookup i) nfz [(6, ⟨[7, 19, 20, 21], [1190022, 1190005, 1190006, 1190003], [], []⟩), (9, ⟨[7, 9, 19, 20, 21, 26, 27], [9, 1190022, 1190005, 1190006, 1190003], [], []⟩)] ⟨[], ⟨[39, 40], [], [], []⟩⟩ 37 (fun _ => some [.lend (.sl (.sl (.int .i64))), .lend (.int .i64)])
theorem H20 : FnOk Tryz.prog 20 G20 := gn_ok Tryz.func20 (by kernel_rfl) (by kernel_rfl) ⟨H23, H48, H77c, H78c, H79c, trivial⟩
noncomputable def G91 := gn Tryz.f91 [(107, g107), (20, G20)] nrc nfz [] ⟨[], ⟨[19], [], [], []⟩⟩ 19 (fun _ => some [])
theorem H91 : FnOk Tryz.prog 91 G91 := gn_ok Tryz.func91 (by kernel_rfl) (by kernel_rfl) ⟨h107, H20, trivial⟩
theorem works91 : G91.ans [] [] = some ([.dv .bool true], []) := by kernel_rfl
def g91 : FnC := { ρ := Unit, sig := fun _ => some [], ans := fun l o => (match l, o with | [], [] => some () | _, _ => none), enc := fun _ _ _ => .dv .bool true, obs := fun _ _ _ => [] }
theorem h91 : FnOk Tryz.prog 91 g91 := fun args o x h => by
 simp only [g91] at h
 split at h
 ·exact H91 [] [] _ works91
 ·cases h
noncomputable def G69 := gn Tryz.f69 [(90, G90), (91, g91)] nrc nfz [] ⟨[], ⟨[22], [], [], []⟩⟩ 22 (fun _ => some [])
theorem H69 : FnOk Tryz.prog 69 G69 := gn_ok Tryz.func69 (by kernel_rfl) (by kernel_rfl) ⟨H90, h91, trivial⟩
theorem works69 : G69.ans [] [] = some ([.dv .bool true], []) := by kernel_rfl
def g69 : FnC := { ρ := Unit, sig := fun _ => some [], ans := fun l o => (match l, o with | [], [] => some () | _, _ => none), enc := fun _ _ _ => .dv .bool true, obs := fun _ _ _ => [] }
theorem h69 : FnOk Tryz.prog 69 g69 := fun args o x h => by
 simp only [g69] at h
 split at h
 ·exact H69 [] [] _ works69
 ·cases h
noncomputable def G37 := gn Tryz.f37 [(68, G68), (69, g69)] nrc nfz [] ⟨[], ⟨[23], [], [], []⟩⟩ 23 (fun _ => some [])
theorem H37 : FnOk Tryz.prog 37 G37 := gn_ok Tryz.func37 (by kernel_rfl) (by kernel_rfl) ⟨H68, h69, trivial⟩
theorem works37 : G37.ans [] [] = some ([.dv .bool true], []) := by kernel_rfl
def g37 : FnC := { ρ := Unit, sig := fun _ => some [], ans := fun l o => (match l, o with | [], [] => some () | _, _ => none), enc := fun _ _ _ => .dv .bool true, obs := fun _ _ _ => [] }
theorem h37 : FnOk Tryz.prog 37 g37 := fun args o x h => by
 simp only [g37] at h
 split at h
 ·exact H37 [] [] _ works37
 ·cases h
noncomputable def G12 := gn Tryz.f12 [(10, G10), (37, g37)] nrc nfz [] ⟨[], ⟨[22], [], [], []⟩⟩ 22 (fun _ => some [])
theorem H12 : FnOk Tryz.prog 12 G12 := gn_ok Tryz.func12 (by kernel_rfl) (by kernel_rfl) ⟨H10, h37, trivial⟩
theorem works12 : G12.ans [] [] = some ([.dv .bool true], []) := by kernel_rfl
def g12 : FnC := { ρ := Unit, sig := fun _ => some [], ans := fun l o => (match l, o with | [], [] => some () | _, _ => none), enc := fun _ _ _ => .dv .bool true, obs := fun _ _ _ => [] }
theorem h12 : FnOk Tryz.prog 12 g12 := fun args o x h => by
 simp only [g12] at h
 split at h
 ·exact H12 [] [] _ works12
 ·cases h
open Go.RowKit
noncomputable def G98 := gn Tryz.f98 [] nrc nfz [] ⟨[], ⟨[51, 52], [], [], []⟩⟩ 49 (fun _ => some [.lend (.int .u64), .lend (.int .u64)])
theorem H98 : FnOk Tryz.prog 98 G98 := gn_ok Tryz.func98 (by kernel_rfl) (by kernel_rfl) trivial
noncomputable def G81 := gn Tryz.f81 [(98, G98)] nrc nfz [] ⟨[], ⟨[30, 31], [], [], []⟩⟩ 28 (fun _ => some [.lend (.int .u64), .lend (.int .u64)])
theorem H81 : FnOk Tryz.prog 81 G81 := gn_ok Tryz.func81 (by kernel_rfl) (by kernel_rfl) ⟨H98, trivial⟩
noncomputable def G49 := gn Tryz.f49 [(81, G81)] nrc nfz [(8, ⟨[7, 8], [30], [], []⟩)] ⟨[], ⟨[], [], [(.slot 48, 1500, .int .i64)], []⟩⟩ 46 (fun _ => some [.lend (.sl (.int .i64)), .lend (.int .i64)])
theorem H49 : FnOk Tryz.prog 49 G49 := gn_ok Tryz.func49 (by kernel_rfl) (by kernel_rfl) ⟨H81, trivial⟩
noncomputable def G24 := gn Tryz.f24 [] nrc nfz [] ⟨[], ⟨[], [], [(.slot 8, 1500, .int .i64)], []⟩⟩ 7 (fun _ => some [.lend (.nsl (.int .i64))])
theorem H24 : FnOk Tryz.prog 24 G24 := gn_ok Tryz.func24 (by kernel_rfl) (by kernel_rfl) trivial
noncomputable def G53c := gn Tryz.f53 [(52, G52)] nrc nfz [] ⟨[], ⟨[9], [9000], [], []⟩⟩ 7 (fun _ => some [.lend (.int .i64), .obj])
theorem H53c : FnOk Tryz.prog 53 G53c := gn_ok Tryz.func53 (by kernel_rfl) (by kernel_rfl) ⟨H52, trivial⟩
noncomputable def G57c53 := gn Tryz.f57 [(53, G53c)] nrc nfz [(2, ⟨[0, 1, 7, 8], [9000], [], []⟩)] ⟨[], ⟨[19], [9000], [], []⟩⟩ 17 (fun l => (match l with | [_, .fn 53 _ _ _] => some [.lend (.sl (.int .i64)), .obj] | _ => none))
theorem H57c53 : FnOk Tryz.prog 57 G57c53 := gn_ok Tryz.func57 (by kernel_rfl) (by kernel_rfl) ⟨H53c, trivial⟩
noncomputable def G26c53 := gn Tryz.f26 [(57, G57c53)] nrc nfz [] ⟨[], ⟨[9], [9000], [], []⟩⟩ 7 (fun l => (match l with | [_, .fn 53 _ _ _] => some [.lend (.sl (.int .i64)), .obj] | _ => none))
theorem H26c53 : FnOk Tryz.prog 26 G26c53 := gn_ok Tryz.func26 (by kernel_rfl) (by kernel_rfl) ⟨H57c53, trivial⟩
noncomputable def G25 := gn Tryz.f25 [(26, G26c53), (52, G52), (54, G54), (55, G55c56)] nrc nfz [(10, ⟨[1, 8, 35, 36, 37], [33], [], []⟩)] ⟨[], ⟨[59], [], [], []⟩⟩ 56 (fun _ => some [.lend (.sl (.sl (.int .i64))), .lend (.int .i64), .lend (.pair (.int .i64) (.pair (.sl (.int .i64)) (.unit)))])
theorem H25 : FnOk Tryz.prog 25 G25 := gn_ok Tryz.func25 (by kernel_rfl) (by kernel_rfl) ⟨H26c53, H52, H54, H55c56, trivial⟩
noncomputable def G28 := gn Tryz.f28 [] nrc nfz [] ⟨[], ⟨[5], [], [], []⟩⟩ 4 (fun _ => some [.lend (.int .i64)])
theorem H28 : FnOk Tryz.prog 28 G28 := gn_ok Tryz.func28 (by kernel_rfl) (by kernel_rfl) trivial
noncomputable def G57c28 := gn Tryz.f57 [(28, G28)] nrc nfz [(2, ⟨[0, 1, 7, 8], [], [], []⟩)] ⟨[], ⟨[19], [], [], []⟩⟩ 17 (fun l => (match l with | [_, .fn 28 _ _ _] => some [.lend (.sl (.int .i64)), .obj] | _ => none))
theorem H57c28 : FnOk Tryz.prog 57 G57c28 := gn_ok Tryz.func57 (by kernel_rfl) (by kernel_rfl) ⟨H28, trivial⟩
noncomputable def G26c28 := gn Tryz.f26 [(57, G57c28)] nrc nfz [] ⟨[], ⟨[9], [], [], []⟩⟩ 7 (fun l => (match l with | [_, .fn 28 _ _ _] => some [.lend (.sl (.int .i64)), .obj] | _ => none))
theorem H26c28 : FnOk Tryz.prog 26 G26c28 := gn_ok Tryz.func26 (by kernel_rfl) (by kernel_rfl) ⟨H57c28, trivial⟩
noncomputable def G30 := gn Tryz.f30 [] nrc nfz [] ⟨[], ⟨[5], [], [], []⟩⟩ 4 (fun _ => some [.lend (.pair (.int .i64) (.pair (.sl (.int .i64)) (.unit)))])
theorem H30 : FnOk Tryz.prog 30 G30 := gn_ok Tryz.func30 (by kernel_rfl) (by kernel_rfl) trivial
noncomputable def G29c30 := gn Tryz.f29 [(30, G30)] nrc nfz [(3, ⟨[1, 5, 8, 9, 10], [], [], []⟩)] ⟨[], ⟨[21], [], [], []⟩⟩ 19 (fun l => (match l with | [_, .fn 30 _ _ _] => some [.lend (.sl (.pair (.int .i64) (.pair (.sl (.int .i64)) (.unit)))), .obj] | _ => none))
theorem H29c30 : FnOk Tryz.prog 29 G29c30 := gn_ok Tryz.func29 (by kernel_rfl) (by kernel_rfl) ⟨H30, trivial⟩
noncomputable def G7 := gn Tryz.f7 [(23, G23), (24, G24), (25, G25), (26, G26c28), (27, G27), (29, G29c30)] nrc (fun i => ([37] : List Nat).contains i) [(8, ⟨[0, 1, 2, 28, 29, 30], [], [(.slot 9, 1009, .tup (.sl (.int .i64)))], []⟩), (13, ⟨[0, 1, 2, 9, 40, 41, 42], [1009], [], []⟩), (19, ⟨[0, 1, 2, 9, 13, 40, 41, 42, 54, 55, 56], [1009, 13], [], []⟩)] ⟨[], ⟨[81, 82], [], [], []⟩⟩ 78 (fun _ => some [.lend (.sl (.sl (.int .i64))), .lend (.int .i64), .lend (.sl (.pair (.int .i64) (.pair (.sl (.int .i64)) (.unit))))])
theorem H7 : FnOk Tryz.prog 7 G7 := gn_ok Tryz.func7 (by kernel_rfl) (by kernel_rfl) ⟨H23, H24, H25, H26c28, H27, H29c30, trivial⟩
noncomputable def G32 := gn Tryz.f32 [] nrc nfz [(3, ⟨[1, 8, 9, 10], [], [(.slot 5, 1005, .int .i64)], []⟩)] ⟨[(24, .sl (.int .i64))], ⟨[24], [], [], []⟩⟩ 22 (fun _ => some [.own (.sl (.int .i64)), .own (.int .i64)])
theorem H32 : FnOk Tryz.prog 32 G32 := gn_ok Tryz.func32 (by kernel_rfl) (by kernel_rfl) trivial
noncomputable def G8 := gn Tryz.f8 [(20, G20), (31, G31), (32, G32)] nrc nfz [] ⟨[(30, .sl (.int .i64)), (31, .sl (.int .i64))], ⟨[30, 31, 32], [], [], []⟩⟩ 28 (fun _ => some [.own (.sl (.sl (.int .i64))), .own (.int .i64)])
theorem H8 : FnOk Tryz.prog 8 G8 := gn_ok Tryz.func8 (by kernel_rfl) (by kernel_rfl) ⟨H20, H31, H32, trivial⟩
end Go.Proofs.YtjcnfpfldocpdaaGreatDoor
