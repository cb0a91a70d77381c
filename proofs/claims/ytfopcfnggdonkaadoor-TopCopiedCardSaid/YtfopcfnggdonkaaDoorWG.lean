/-
 The functions that the examples of the chapters reach, told by their reckoning.
-/
import Derived.Test.YtfopcfnggdonkaaDoorGN
namespace Go.Proofs.YtfopcfnggdonkaaDoor
open Go.RowKit
set_option linter.unusedVariables false
noncomputable def G54c := gn Tryd.f54 [] nrc nfz [] ⟨[], ⟨[11], [9000], [], []⟩⟩ 9 (fun _ => some [.own (.sl (.int .i64)), .obj])
theorem H54c : FnOk Tryd.prog 54 G54c := gn_ok Tryd.func54 (by kernel_rfl) (by kernel_rfl) trivial
noncomputable def G27c54 := gn Tryd.f27 [(54, G54c)] nrc nfz [(2, ⟨[0, 1, 7, 8], [9000], [], []⟩)] ⟨[], ⟨[19], [9000], [], []⟩⟩ 17 (fun l => (match l with | [_, .fn 54 _ _ _] => some [.own (.sl (.sl (.int .i64))), .obj] | _ => none))
theorem H27c54 : FnOk Tryd.prog 27 G27c54 := gn_ok Tryd.func27 (by kernel_rfl) (by kernel_rfl) ⟨H54c, trivial⟩
noncomputable def G16c54 := gn Tryd.f16 [(27, G27c54)] nrc nfz [] ⟨[], ⟨[9], [9000], [], []⟩⟩ 7 (fun l => (match l with | [_, .fn 54 _ _ _] => some [.own (.sl (.sl (.int .i64))), .obj] | _ => none))
theorem H16c54 : FnOk Tryd.prog 16 G16c54 := gn_ok Tryd.func16 (by kernel_rfl) (by kernel_rfl) ⟨H27c54, trivial⟩
noncomputable def G40 := gn Tryd.f40 [] nrc nfz [] ⟨[], ⟨[15], [], [], []⟩⟩ 12 (fun _ => some [.lend (.int .i64), .lend (.int .i64), .lend (.int .i64)])
theorem H40 : FnOk Tryd.prog 40 G40 := gn_ok Tryd.func40 (by kernel_rfl) (by kernel_rfl) trivial
noncomputable def G56 := gn Tryd.f56 [(40, G40)] nrc nfz [] ⟨[], ⟨[6], [], [], []⟩⟩ 5 (fun _ => some [.lend (.int .i64)])
theorem H56 : FnOk Tryd.prog 56 G56 := gn_ok Tryd.func56 (by kernel_rfl) (by kernel_rfl) ⟨H40, trivial⟩
noncomputable def G37c56 := gn Tryd.f37 [(56, G56)] nrc nfz [(2, ⟨[0, 1, 7, 8], [], [], []⟩)] ⟨[], ⟨[19], [], [], []⟩⟩ 17 (fun l => (match l with | [_, .fn 56 _ _ _] => some [.lend (.sl (.int .i64)), .obj] | _ => none))
theorem H37c56 : FnOk Tryd.prog 37 G37c56 := gn_ok Tryd.func37 (by kernel_rfl) (by kernel_rfl) ⟨H56, trivial⟩
noncomputable def G28c56 := gn Tryd.f28 [(37, G37c56)] nrc nfz [] ⟨[], ⟨[9], [], [], []⟩⟩ 7 (fun l => (match l with | [_, .fn 56 _ _ _] => some [.lend (.sl (.int .i64)), .obj] | _ => none))
theorem H28c56 : FnOk Tryd.prog 28 G28c56 := gn_ok Tryd.func28 (by kernel_rfl) (by kernel_rfl) ⟨H37c56, trivial⟩
noncomputable def G66c := gn Tryd.f66 [] nrc (fun i => ([25] : List Nat).contains i) [] ⟨[], ⟨[], [], [(.slot 27, 1500, .int .i64)], []⟩⟩ 25 (fun _ => some [.obj, .lend (.int .i64)])
theorem H66c : FnOk Tryd.prog 66 G66c := gn_ok Tryd.func66 (by kernel_rfl) (by kernel_rfl) trivial
noncomputable def G55 := gn Tryd.f55 [(66, G66c)] nrc nfz [(3, ⟨[0, 3, 9, 10, 11], [], [], []⟩), (11, ⟨[25, 26, 27], [], [(.slot 6, 1006, .int .i64)], []⟩)] ⟨[(36, .sl (.int .i64))], ⟨[36], [], [], []⟩⟩ 35 (fun _ => some [.own (.sl (.sl (.int .i64)))])
theorem H55 : FnOk Tryd.prog 55 G55 := gn_ok Tryd.func55 (by kernel_rfl) (by kernel_rfl) ⟨H66c, trivial⟩
noncomputable def G39 := gn Tryd.f39 [(16, G16c54), (28, G28c56), (40, G40), (55, G55)] nrc nfz [] ⟨[], ⟨[27], [], [], []⟩⟩ 26 (fun _ => some [.lend (.sl (.sl (.int .i64)))])
theorem H39 : FnOk Tryd.prog 39 G39 := gn_ok Tryd.func39 (by kernel_rfl) (by kernel_rfl) ⟨H16c54, H28c56, H40, H55, trivial⟩
noncomputable def G33 := gn Tryd.f33 [(39, G39), (40, G40)] nrc nfz [] ⟨[], ⟨[16], [], [], []⟩⟩ 14 (fun _ => some [.lend (.sl (.sl (.int .i64))), .lend (.int .i64)])
theorem H33 : FnOk Tryd.prog 33 G33 := gn_ok Tryd.func33 (by kernel_rfl) (by kernel_rfl) ⟨H39, H40, trivial⟩
noncomputable def G47 := gn Tryd.f47 [] nrc nfz [] ⟨[], ⟨[4], [], [], []⟩⟩ 3 (fun _ => some [.lend (.int .i64)])
theorem H47 : FnOk Tryd.prog 47 G47 := gn_ok Tryd.func47 (by kernel_rfl) (by kernel_rfl) trivial
noncomputable def G46c47 := gn Tryd.f46 [(47, G47)] nrc nfz [(3, ⟨[1, 5, 8, 9, 10], [], [], []⟩)] ⟨[], ⟨[21], [], [], []⟩⟩ 19 (fun l => (match l with | [_, .fn 47 _ _ _] => some [.lend (.sl (.int .i64)), .obj] | _ => none))
theorem H46c47 : FnOk Tryd.prog 46 G46c47 := gn_ok Tryd.func46 (by kernel_rfl) (by kernel_rfl) ⟨H47, trivial⟩
noncomputable def G58c := gn Tryd.f58 [] nrc nfz [] ⟨[], ⟨[8], [9000], [], []⟩⟩ 6 (fun _ => some [.lend (.sl (.int .i64)), .obj])
theorem H58c : FnOk Tryd.prog 58 G58c := gn_ok Tryd.func58 (by kernel_rfl) (by kernel_rfl) trivial
noncomputable def G57c58 := gn Tryd.f57 [(58, G58c)] nrc nfz [(3, ⟨[1, 5, 8, 9, 10], [9000], [], []⟩)] ⟨[], ⟨[21], [9000], [], []⟩⟩ 19 (fun l => (match l with | [_, .fn 58 _ _ _] => some [.lend (.sl (.sl (.int .i64))), .obj] | _ => none))
theorem H57c58 : FnOk Tryd.prog 57 G57c58 := gn_ok Tryd.func57 (by kernel_rfl) (by kernel_rfl) ⟨H58c, trivial⟩
noncomputable def G41 := gn Tryd.f41 [(46, G46c47), (57, G57c58)] nrc nfz [(2, ⟨[0, 3, 7, 8, 9], [], [(.slot 2, 1002, .int .i64)], []⟩), (7, ⟨[0, 2, 22, 23], [1002], [(.slot 3, 1003, .int .i64)], []⟩)] ⟨[(35, .sl (.int .i64)), (36, .sl (.int .i64))], ⟨[35, 36], [], [], []⟩⟩ 34 (fun _ => some [.own (.sl (.sl (.int .i64)))])
theorem H41 : FnOk Tryd.prog 41 G41 := gn_ok Tryd.func41 (by kernel_rfl) (by kernel_rfl) ⟨H46c47, H57c58, trivial⟩
noncomputable def G34 := gn Tryd.f34 [(41, G41)] (fun i => ([(5, [some (.sl (.int .i64))]), (6, [some (.sl (.int .i64))]), (15, [some (.int .i64), none]), (19, [some (.int .i64), none]), (21, [some (.int .i64), none]), (22, [])] : List (Nat × List (Option DT))).lookup i) nfz [] ⟨[], ⟨[23], [3, 5, 6, 22], [], []⟩⟩ 21 (fun _ => some [.own (.sl (.sl (.int .i64))), .own (.int .i64)])
theorem H34 : FnOk Tryd.prog 34 G34 := gn_ok Tryd.func34 (by kernel_rfl) (by kernel_rfl) ⟨H41, trivial⟩
noncomputable def G42c := gn Tryd.f42 [] nrc nfz [] ⟨[], ⟨[8], [9000], [], []⟩⟩ 6 (fun _ => some [.own (.int .i64), .obj])
theorem H42c : FnOk Tryd.prog 42 G42c := gn_ok Tryd.func42 (by kernel_rfl) (by kernel_rfl) trivial
noncomputable def G43c := gn Tryd.f43 [] nrc nfz [] ⟨[], ⟨[8], [9000], [], []⟩⟩ 6 (fun _ => some [.own (.int .i64), .obj])
theorem H43c : FnOk Tryd.prog 43 G43c := gn_ok Tryd.func43 (by kernel_rfl) (by kernel_rfl) trivial
noncomputable def G45 := gn Tryd.f45 [] nrc nfz [] ⟨[], ⟨[11], [], [], []⟩⟩ 9 (fun _ => some [.lend (.int .i64), .lend (.int .i64)])
theorem H45 : FnOk Tryd.prog 45 G45 := gn_ok Tryd.func45 (by kernel_rfl) (by kernel_rfl) trivial
noncomputable def G44c := gn Tryd.f44 [(45, G45), (46, G46c47)] nrc nfz [] ⟨[], ⟨[9], [9000, 9001], [], []⟩⟩ 6 (fun _ => some [.own (.int .i64), .obj, .obj])
theorem H44c : FnOk Tryd.prog 44 G44c := gn_ok Tryd.func44 (by kernel_rfl) (by kernel_rfl) ⟨H45, H46c47, trivial⟩
noncomputable def G25 := gn Tryd.f25 [(33, G33), (34, G34), (42, G42c), (43, G43c), (44, G44c)] (fun i => ([(9, [some (.int .i64), none]), (24, [some (.int .i64), none])] : List (Nat × List (Option DT))).lookup i) nfz [(6, ⟨[7, 19, 20, 21], [1190022, 1190005, 1190006, 1190003], [], []⟩), (9, ⟨[7, 9, 19, 20, 21, 26, 27], [9, 1190022, 1190005, 1190006, 1190003], [], []⟩)] ⟨[], ⟨[39, 40], [], [], []⟩⟩ 37 (fun _ => some [.lend (.sl (.sl (.int .i64))), .lend (.int .i64)])
theorem H25 : FnOk Tryd.prog 25 G25 := gn_ok Tryd.func25 (by kernel_rfl) (by kernel_rfl) ⟨H33, H34, H42c, H43c, H44c, trivial⟩
noncomputable def G48 := gn Tryd.f48 [] nrc nfz [] ⟨[], ⟨[15], [], [], []⟩⟩ 12 (fun _ => some [.lend (.int .i64), .lend (.int .i64), .lend (.int .i64)])
theorem H48 : FnOk Tryd.prog 48 G48 := gn_ok Tryd.func48 (by kernel_rfl) (by kernel_rfl) trivial
noncomputable def G35 := gn Tryd.f35 [(48, G48)] nrc nfz [(5, ⟨[0, 1, 6, 16, 17], [], [], []⟩), (9, ⟨[1, 6, 24, 25], [], [], []⟩)] ⟨[], ⟨[32, 33], [], [], []⟩⟩ 30 (fun _ => some [.lend (.int .i64), .lend (.int .i64)])
theorem H35 : FnOk Tryd.prog 35 G35 := gn_ok Tryd.func35 (by kernel_rfl) (by kernel_rfl) ⟨H48, trivial⟩
noncomputable def G59 := gn Tryd.f59 [] nrc nfz [] ⟨[], ⟨[15], [], [], []⟩⟩ 12 (fun _ => some [.lend (.int .i64), .lend (.int .i64), .lend (.int .i64)])
theorem H59 : FnOk Tryd.prog 59 G59 := gn_ok Tryd.func59 (by kernel_rfl) (by kernel_rfl) trivial
noncomputable def G60 := gn Tryd.f60 [] nrc nfz [(1, ⟨[0, 1], [], [], []⟩)] ⟨[], ⟨[12], [], [], []⟩⟩ 10 (fun _ => some [.lend (.int .i64), .lend (.int .i64)])
theorem H60 : FnOk Tryd.prog 60 G60 := gn_ok Tryd.func60 (by kernel_rfl) (by kernel_rfl) trivial
noncomputable def G49 := gn Tryd.f49 [(59, G59), (60, G60)] nrc (fun i => ([26] : List Nat).contains i) [(7, ⟨[0, 1, 6, 28, 29], [26], [], []⟩), (10, ⟨[0, 1, 6, 7, 28, 29, 32, 33], [26], [], []⟩)] ⟨[(55, .sl (.sl (.int .i64)))], ⟨[55, 56], [], [], []⟩⟩ 53 (fun _ => some [.own (.int .i64), .own (.int .i64)])
theorem H49 : FnOk Tryd.prog 49 G49 := gn_ok Tryd.func49 (by kernel_rfl) (by kernel_rfl) ⟨H59, H60, trivial⟩
noncomputable def G30 := gn Tryd.f30 [] nrc nfz [(2, ⟨[0, 1, 7, 8], [], [], []⟩)] ⟨[], ⟨[19], [], [], []⟩⟩ 17 (fun _ => some [.lend (.sl (.int .i64)), .lend (.int .i64)])
theorem H30 : FnOk Tryd.prog 30 G30 := gn_ok Tryd.func30 (by kernel_rfl) (by kernel_rfl) trivial
noncomputable def G74c := gn Tryd.f74 [(59, G59)] nrc nfz [] ⟨[], ⟨[10], [9000], [], []⟩⟩ 8 (fun _ => some [.own (.int .i64), .obj])
theorem H74c : FnOk Tryd.prog 74 G74c := gn_ok Tryd.func74 (by kernel_rfl) (by kernel_rfl) ⟨H59, trivial⟩
noncomputable def G37c74 := gn Tryd.f37 [(74, G74c)] nrc nfz [(2, ⟨[0, 1, 7, 8], [9000], [], []⟩)] ⟨[], ⟨[19], [9000], [], []⟩⟩ 17 (fun l => (match l with | [_, .fn 74 _ _ _] => some [.own (.sl (.int .i64)), .obj] | _ => none))
theorem H37c74 : FnOk Tryd.prog 37 G37c74 := gn_ok Tryd.func37 (by kernel_rfl) (by kernel_rfl) ⟨H74c, trivial⟩
noncomputable def G28c74 := gn Tryd.f28 [(37, G37c74)] nrc nfz [] ⟨[], ⟨[9], [9000], [], []⟩⟩ 7 (fun l => (match l with | [_, .fn 74 _ _ _] => some [.own (.sl (.int .i64)), .obj] | _ => none))
theorem H28c74 : FnOk Tryd.prog 28 G28c74 := gn_ok Tryd.func28 (by kernel_rfl) (by kernel_rfl) ⟨H37c74, trivial⟩
noncomputable def G81c := gn Tryd.f81 [] nrc nfz [] ⟨[], ⟨[8], [9000], [], []⟩⟩ 6 (fun _ => some [.lend (.sl (.int .i64)), .obj])
theorem H81c : FnOk Tryd.prog 81 G81c := gn_ok Tryd.func81 (by kernel_rfl) (by kernel_rfl) trivial
noncomputable def G27c81 := gn Tryd.f27 [(81, G81c)] nrc nfz [(2, ⟨[0, 1, 7, 8], [9000], [], []⟩)] ⟨[], ⟨[19], [9000], [], []⟩⟩ 17 (fun l => (match l with | [_, .fn 81 _ _ _] => some [.lend (.sl (.sl (.int .i64))), .obj] | _ => none))
theorem H27c81 : FnOk Tryd.prog 27 G27c81 := gn_ok Tryd.func27 (by kernel_rfl) (by kernel_rfl) ⟨H81c, trivial⟩
noncomputable def G16c81 := gn Tryd.f16 [(27, G27c81)] nrc nfz [] ⟨[], ⟨[9], [9000], [], []⟩⟩ 7 (fun l => (match l with | [_, .fn 81 _ _ _] => some [.lend (.sl (.sl (.int .i64))), .obj] | _ => none))
theorem H16c81 : FnOk Tryd.prog 16 G16c81 := gn_ok Tryd.func16 (by kernel_rfl) (by kernel_rfl) ⟨H27c81, trivial⟩
noncomputable def G82c := gn Tryd.f82 [(59, G59)] nrc nfz [] ⟨[], ⟨[9], [9000], [], []⟩⟩ 7 (fun _ => some [.lend (.int .i64), .obj])
theorem H82c : FnOk Tryd.prog 82 G82c := gn_ok Tryd.func82 (by kernel_rfl) (by kernel_rfl) ⟨H59, trivial⟩
noncomputable def G37c82 := gn Tryd.f37 [(82, G82c)] nrc nfz [(2, ⟨[0, 1, 7, 8], [9000], [], []⟩)] ⟨[], ⟨[19], [9000], [], []⟩⟩ 17 (fun l => (match l with | [_, .fn 82 _ _ _] => some [.lend (.sl (.int .i64)), .obj] | _ => none))
theorem H37c82 : FnOk Tryd.prog 37 G37c82 := gn_ok Tryd.func37 (by kernel_rfl) (by kernel_rfl) ⟨H82c, trivial⟩
noncomputable def G28c82 := gn Tryd.f28 [(37, G37c82)] nrc nfz [] ⟨[], ⟨[9], [9000], [], []⟩⟩ 7 (fun l => (match l with | [_, .fn 82 _ _ _] => some [.lend (.sl (.int .i64)), .obj] | _ => none))
theorem H28c82 : FnOk Tryd.prog 28 G28c82 := gn_ok Tryd.func28 (by kernel_rfl) (by kernel_rfl) ⟨H37c82, trivial⟩
noncomputable def G83 := gn Tryd.f83 [] nrc nfz [(3, ⟨[0, 3, 11, 12], [], [], []⟩), (7, ⟨[0, 3, 4, 5, 6, 11, 12, 16, 17], [5, 6], [], []⟩)] ⟨[], ⟨[49], [], [], []⟩⟩ 48 (fun _ => some [.lend (.sl (.sl (.int .i64)))])
theorem H83 : FnOk Tryd.prog 83 G83 := gn_ok Tryd.func83 (by kernel_rfl) (by kernel_rfl) trivial
noncomputable def G73 := gn Tryd.f73 [(16, G16c81), (28, G28c82), (55, G55), (59, G59), (83, G83)] nrc nfz [] ⟨[], ⟨[23], [], [], []⟩⟩ 22 (fun _ => some [.lend (.sl (.sl (.int .i64)))])
theorem H73 : FnOk Tryd.prog 73 G73 := gn_ok Tryd.func73 (by kernel_rfl) (by kernel_rfl) ⟨H16c81, H28c82, H55, H59, H83, trivial⟩
noncomputable def G67 := gn Tryd.f67 [(28, G28c74), (73, G73)] nrc nfz [] ⟨[], ⟨[20], [], [], []⟩⟩ 18 (fun _ => some [.lend (.sl (.sl (.int .i64))), .lend (.sl (.int .i64))])
theorem H67 : FnOk Tryd.prog 67 G67 := gn_ok Tryd.func67 (by kernel_rfl) (by kernel_rfl) ⟨H28c74, H73, trivial⟩
noncomputable def G76c := gn Tryd.f76 [] nrc nfz [] ⟨[], ⟨[13], [9000], [], []⟩⟩ 10 (fun _ => some [.own (.int .i64), .own (.int .i64), .obj])
theorem H76c : FnOk Tryd.prog 76 G76c := gn_ok Tryd.func76 (by kernel_rfl) (by kernel_rfl) trivial
noncomputable def G75c76 := gn Tryd.f75 [(76, G76c)] nrc nfz [(2, ⟨[0, 2, 9, 10, 11], [9000], [], []⟩)] ⟨[], ⟨[21], [9000], [], []⟩⟩ 18 (fun l => (match l with | [_, _, .fn 76 _ _ _] => some [.own (.int .i64), .own (.sl (.int .i64)), .obj] | _ => none))
theorem H75c76 : FnOk Tryd.prog 75 G75c76 := gn_ok Tryd.func75 (by kernel_rfl) (by kernel_rfl) ⟨H76c, trivial⟩
noncomputable def G68 := gn Tryd.f68 [(75, G75c76)] nrc nfz [] ⟨[], ⟨[11], [], [], []⟩⟩ 8 (fun _ => some [.lend (.sl (.sl (.int .i64))), .lend (.int .i64), .lend (.sl (.int .i64))])
theorem H68 : FnOk Tryd.prog 68 G68 := gn_ok Tryd.func68 (by kernel_rfl) (by kernel_rfl) ⟨H75c76, trivial⟩
noncomputable def G61 := gn Tryd.f61 [(67, G67), (68, G68)] nrc nfz [] ⟨[], ⟨[16, 17], [], [], []⟩⟩ 14 (fun _ => some [.lend (.sl (.sl (.int .i64))), .lend (.sl (.int .i64))])
theorem H61 : FnOk Tryd.prog 61 G61 := gn_ok Tryd.func61 (by kernel_rfl) (by kernel_rfl) ⟨H67, H68, trivial⟩
noncomputable def G50 := gn Tryd.f50 [(30, G30), (61, G61)] nrc nfz [] ⟨[], ⟨[22, 23], [], [], []⟩⟩ 20 (fun _ => some [.lend (.sl (.sl (.int .i64))), .lend (.sl (.int .i64))])
theorem H50 : FnOk Tryd.prog 50 G50 := gn_ok Tryd.func50 (by kernel_rfl) (by kernel_rfl) ⟨H30, H61, trivial⟩
noncomputable def G69 := gn Tryd.f69 [] nrc nfz [] ⟨[], ⟨[15], [], [], []⟩⟩ 12 (fun _ => some [.lend (.int .i64), .lend (.int .i64), .lend (.int .i64)])
theorem H69 : FnOk Tryd.prog 69 G69 := gn_ok Tryd.func69 (by kernel_rfl) (by kernel_rfl) trivial
noncomputable def G70c := gn Tryd.f70 [(69, G69)] nrc nfz [] ⟨[], ⟨[10], [9000], [], []⟩⟩ 8 (fun _ => some [.own (.int .i64), .obj])
theorem H70c : FnOk Tryd.prog 70 G70c := gn_ok Tryd.func70 (by kernel_rfl) (by kernel_rfl) ⟨H69, trivial⟩
noncomputable def G37c70 := gn Tryd.f37 [(70, G70c)] nrc nfz [(2, ⟨[0, 1, 7, 8], [9000], [], []⟩)] ⟨[], ⟨[19], [9000], [], []⟩⟩ 17 (fun l => (match l with | [_, .fn 70 _ _ _] => some [.own (.sl (.int .i64)), .obj] | _ => none))
theorem H37c70 : FnOk Tryd.prog 37 G37c70 := gn_ok Tryd.func37 (by kernel_rfl) (by kernel_rfl) ⟨H70c, trivial⟩
noncomputable def G28c70 := gn Tryd.f28 [(37, G37c70)] nrc nfz [] ⟨[], ⟨[9], [9000], [], []⟩⟩ 7 (fun l => (match l with | [_, .fn 70 _ _ _] => some [.own (.sl (.int .i64)), .obj] | _ => none))
theorem H28c70 : FnOk Tryd.prog 28 G28c70 := gn_ok Tryd.func28 (by kernel_rfl) (by kernel_rfl) ⟨H37c70, trivial⟩
noncomputable def G62 := gn Tryd.f62 [(28, G28c70), (69, G69)] nrc nfz [(8, ⟨[1, 21, 22, 23], [1], [], []⟩)] ⟨[], ⟨[38], [], [], []⟩⟩ 37 (fun _ => some [.lend (.pair (.int .i64) (.pair (.sl (.sl (.int .i64))) (.unit)))])
theorem H62 : FnOk Tryd.prog 62 G62 := gn_ok Tryd.func62 (by kernel_rfl) (by kernel_rfl) ⟨H28c70, H69, trivial⟩
noncomputable def G63 := gn Tryd.f63 [(69, G69)] nrc nfz [(4, ⟨[2, 6, 7, 10, 11, 12], [2], [], []⟩)] ⟨[], ⟨[34, 35], [], [], []⟩⟩ 32 (fun _ => some [.lend (.pair (.int .i64) (.pair (.sl (.sl (.int .i64))) (.unit))), .lend (.sl (.int .i64))])
theorem H63 : FnOk Tryd.prog 63 G63 := gn_ok Tryd.func63 (by kernel_rfl) (by kernel_rfl) ⟨H69, trivial⟩
noncomputable def G32 := gn Tryd.f32 [] nrc nfz [] ⟨[(9, .csl (.int .i64))], ⟨[9], [], [], []⟩⟩ 8 (fun _ => some [.own (.sl (.int .i64))])
theorem H32 : FnOk Tryd.prog 32 G32 := gn_ok Tryd.func32 (by kernel_rfl) (by kernel_rfl) trivial
noncomputable def G101 := gn Tryd.f101 [] nrc nfz [] ⟨[], ⟨[9], [], [], []⟩⟩ 7 (fun _ => some [.lend (.sl (.int .i64)), .lend (.int .i64)])
theorem H101 : FnOk Tryd.prog 101 G101 := gn_ok Tryd.func101 (by kernel_rfl) (by kernel_rfl) trivial
noncomputable def G77 := gn Tryd.f77 [] nrc nfz [] ⟨[], ⟨[6], [], [], []⟩⟩ 4 (fun _ => some [.lend (.int .i64), .lend (.int .i64)])
theorem H77 : FnOk Tryd.prog 77 G77 := gn_ok Tryd.func77 (by kernel_rfl) (by kernel_rfl) trivial
noncomputable def G84 := gn Tryd.f84 [] nrc nfz [] ⟨[], ⟨[10], [], [], []⟩⟩ 8 (fun _ => some [.lend (.int .u8), .lend (.int .i64)])
theorem H84 : FnOk Tryd.prog 84 G84 := gn_ok Tryd.func84 (by kernel_rfl) (by kernel_rfl) trivial
noncomputable def G78 := gn Tryd.f78 [(84, G84)] nrc nfz [(4, ⟨[4, 8], [], [(.slot 3, 1003, .int .i64)], []⟩)] ⟨[(20, .sl (.int .i64))], ⟨[20], [], [], []⟩⟩ 19 (fun _ => some [.own (.int .u8)])
theorem H78 : FnOk Tryd.prog 78 G78 := gn_ok Tryd.func78 (by kernel_rfl) (by kernel_rfl) ⟨H84, trivial⟩
noncomputable def G71 := gn Tryd.f71 [(101, G101), (77, G77), (78, G78)] nrc nfz [(5, ⟨[6, 7, 13, 14, 15], [], [], []⟩)] ⟨[], ⟨[35], [], [], []⟩⟩ 33 (fun _ => some [.lend (.int .u8), .lend (.ifc 103 (.int .i64) (.ifc 104 (.sl (.int .i64)) (.ifn)))])
theorem H71 : FnOk Tryd.prog 71 G71 := gn_ok Tryd.func71 (by kernel_rfl) (by kernel_rfl) ⟨H101, H77, H78, trivial⟩
noncomputable def G79 := gn Tryd.f79 [] nrc nfz [(5, ⟨[0, 3, 4], [], [], []⟩)] ⟨[], ⟨[25], [], [], []⟩⟩ 24 (fun _ => some [.lend (.sl (.int .i64))])
theorem H79 : FnOk Tryd.prog 79 G79 := gn_ok Tryd.func79 (by kernel_rfl) (by kernel_rfl) trivial
noncomputable def G80 := gn Tryd.f80 [] nrc nfz [(5, ⟨[0, 3, 4], [], [], []⟩)] ⟨[], ⟨[25], [], [], []⟩⟩ 24 (fun _ => some [.lend (.sl (.int .i64))])
theorem H80 : FnOk Tryd.prog 80 G80 := gn_ok Tryd.func80 (by kernel_rfl) (by kernel_rfl) trivial
noncomputable def G72 := gn Tryd.f72 [(79, G79), (80, G80)] nrc nfz [] ⟨[(22, .ifc 103 (.int .i64) (.ifc 104 (.sl (.int .i64)) (.ifn)))], ⟨[22], [], [], []⟩⟩ 20 (fun _ => some [.own (.pair (.int .i64) (.pair (.sl (.sl (.int .i64))) (.unit))), .own (.int .i64)])
theorem H72 : FnOk Tryd.prog 72 G72 := gn_ok Tryd.func72 (by kernel_rfl) (by kernel_rfl) ⟨H79, H80, trivial⟩
noncomputable def G64 := gn Tryd.f64 [(32, G32), (71, G71), (72, G72)] nrc (fun i => ([27, 29] : List Nat).contains i) [(4, ⟨[1, 2, 6], [2, 13], [(.slot 7, 1007, .int .u8), (.slot 8, 1008, .sl (.int .i64))], []⟩), (10, ⟨[1, 2, 6, 9, 10, 38, 39], [2, 13], [(.slot 7, 1007, .int .u8), (.slot 8, 1008, .sl (.int .i64))], []⟩)] ⟨[(66, .sl (.int .i64))], ⟨[66, 67], [], [], []⟩⟩ 64 (fun _ => some [.own (.pair (.int .i64) (.pair (.sl (.sl (.int .i64))) (.unit))), .own (.int .u8)])
theorem H64 : FnOk Tryd.prog 64 G64 := gn_ok Tryd.func64 (by kernel_rfl) (by kernel_rfl) ⟨H32, H71, H72, trivial⟩
noncomputable def G51 := gn Tryd.f51 [(62, G62), (63, G63), (64, G64)] nrc nfz [] ⟨[(34, .sl (.int .i64))], ⟨[34, 35], [], [], []⟩⟩ 32 (fun _ => some [.own (.pair (.int .i64) (.pair (.sl (.sl (.int .i64))) (.unit))), .own (.sl (.int .i64))])
theorem H51 : FnOk Tryd.prog 51 G51 := gn_ok Tryd.func51 (by kernel_rfl) (by kernel_rfl) ⟨H62, H63, H64, trivial⟩
noncomputable def G36 := gn Tryd.f36 [(49, G49), (50, G50), (51, G51)] nrc nfz [] ⟨[], ⟨[49], [], [], []⟩⟩ 49 (fun _ => some [])
theorem H36 : FnOk Tryd.prog 36 G36 := gn_ok Tryd.func36 (by kernel_rfl) (by kernel_rfl) ⟨H49, H50, H51, trivial⟩
theorem works36 : G36.ans [] [] = some ([.dv .bool true], []) := by kernel_rfl
def g36 : FnC := { ρ := Unit, sig := fun _ => some [], ans := fun l o => (match l, o with | [], [] => some () | _, _ => none), enc := fun _ _ _ => .dv .bool true, obs := fun _ _ _ => [] }
theorem h36 : FnOk Tryd.prog 36 g36 := fun args o x h => by
 simp only [g36] at h
 split at h
 ·exact H36 [] [] _ works36
 ·cases h
noncomputable def G26 := gn Tryd.f26 [(35, G35), (36, g36)] nrc nfz [] ⟨[], ⟨[16], [], [], []⟩⟩ 16 (fun _ => some [])
theorem H26 : FnOk Tryd.prog 26 G26 := gn_ok Tryd.func26 (by kernel_rfl) (by kernel_rfl) ⟨H35, h36, trivial⟩
theorem works26 : G26.ans [] [] = some ([.dv .bool true], []) := by kernel_rfl
def g26 : FnC := { ρ := Unit, sig := fun _ => some [], ans := fun l o => (match l, o with | [], [] => some () | _, _ => none), enc := fun _ _ _ => .dv .bool true, obs := fun _ _ _ => [] }
theorem h26 : FnOk Tryd.prog 26 g26 := fun args o x h => by
 simp only [g26] at h
 split at h
 ·exact H26 [] [] _ works26
 ·cases h
noncomputable def G13 := gn Tryd.f13 [(25, G25), (26, g26)] nrc nfz [] ⟨[], ⟨[19], [], [], []⟩⟩ 19 (fun _ => some [])
theorem H13 : FnOk Tryd.prog 13 G13 := gn_ok Tryd.func13 (by kernel_rfl) (by kernel_rfl) ⟨H25, h26, trivial⟩
theorem works13 : G13.ans [] [] = some ([.dv .bool true], []) := by kernel_rfl
def g13 : FnC := { ρ := Unit, sig := fun _ => some [], ans := fun l o => (match l, o with | [], [] => some () | _, _ => none), enc := fun _ _ _ => .dv .bool true, obs := fun _ _ _ => [] }
theorem h13 : FnOk Tryd.prog 13 g13 := fun args o x h => by
 simp only [g13] at h
 split at h
 ·exact H13 [] [] _ works13
 ·cases h
noncomputable def G19 := gn Tryd.f19 [] nrc nfz [(3, ⟨[2, 3, 8, 9, 10], [2, 3], [], []⟩), (6, ⟨[2, 3, 8, 9, 10, 14, 15, 16], [2, 3], [], []⟩)] ⟨[(31, .arr 8 (.int .u8))], ⟨[31], [], [], []⟩⟩ 30 (fun _ => some [.lend (.sl (.sl (.int .i64)))])
theorem H19 : FnOk Tryd.prog 19 G19 := gn_ok Tryd.func19 (by kernel_rfl) (by kernel_rfl) trivial
noncomputable def G10 := gn Tryd.f10 [(19, G19)] nrc nfz [(3, ⟨[2, 4, 5, 10, 11, 12], [2, 4, 5], [], []⟩), (6, ⟨[2, 4, 5, 10, 11, 12, 22, 23], [2, 4, 5], [], []⟩)] ⟨[(36, .arr 8 (.int .u8))], ⟨[36], [], [], []⟩⟩ 34 (fun _ => some [.lend (.pair (.int .i64) (.pair (.sl (.sl (.int .i64))) (.unit))), .lend (.sl (.int .i64))])
theorem H10 : FnOk Tryd.prog 10 G10 := gn_ok Tryd.func10 (by kernel_rfl) (by kernel_rfl) ⟨H19, trivial⟩
noncomputable def G14 := gn Tryd.f14 [] nrc nfz [] ⟨[], ⟨[15], [], [], []⟩⟩ 12 (fun _ => some [.lend (.int .i64), .lend (.int .i64), .lend (.int .i64)])
theorem H14 : FnOk Tryd.prog 14 G14 := gn_ok Tryd.func14 (by kernel_rfl) (by kernel_rfl) trivial
noncomputable def G15 := gn Tryd.f15 [] nrc nfz [] ⟨[], ⟨[8], [], [], []⟩⟩ 7 (fun _ => some [.lend (.pair (.int .i64) (.pair (.sl (.sl (.int .i64))) (.unit)))])
theorem H15 : FnOk Tryd.prog 15 G15 := gn_ok Tryd.func15 (by kernel_rfl) (by kernel_rfl) trivial
noncomputable def G17c := gn Tryd.f17 [(15, G15)] nrc nfz [] ⟨[], ⟨[9], [9000], [], []⟩⟩ 7 (fun _ => some [.own (.sl (.int .i64)), .obj])
theorem H17c : FnOk Tryd.prog 17 G17c := gn_ok Tryd.func17 (by kernel_rfl) (by kernel_rfl) ⟨H15, trivial⟩
noncomputable def G27c17 := gn Tryd.f27 [(17, G17c)] nrc nfz [(2, ⟨[0, 1, 7, 8], [9000], [], []⟩)] ⟨[], ⟨[19], [9000], [], []⟩⟩ 17 (fun l => (match l with | [_, .fn 17 _ _ _] => some [.own (.sl (.sl (.int .i64))), .obj] | _ => none))
theorem H27c17 : FnOk Tryd.prog 27 G27c17 := gn_ok Tryd.func27 (by kernel_rfl) (by kernel_rfl) ⟨H17c, trivial⟩
noncomputable def G16c17 := gn Tryd.f16 [(27, G27c17)] nrc nfz [] ⟨[], ⟨[9], [9000], [], []⟩⟩ 7 (fun l => (match l with | [_, .fn 17 _ _ _] => some [.own (.sl (.sl (.int .i64))), .obj] | _ => none))
theorem H16c17 : FnOk Tryd.prog 16 G16c17 := gn_ok Tryd.func16 (by kernel_rfl) (by kernel_rfl) ⟨H27c17, trivial⟩
noncomputable def G29c := gn Tryd.f29 [(14, G14)] nrc nfz [] ⟨[], ⟨[10], [9000], [], []⟩⟩ 8 (fun _ => some [.own (.int .i64), .obj])
theorem H29c : FnOk Tryd.prog 29 G29c := gn_ok Tryd.func29 (by kernel_rfl) (by kernel_rfl) ⟨H14, trivial⟩
noncomputable def G37c29 := gn Tryd.f37 [(29, G29c)] nrc nfz [(2, ⟨[0, 1, 7, 8], [9000], [], []⟩)] ⟨[], ⟨[19], [9000], [], []⟩⟩ 17 (fun l => (match l with | [_, .fn 29 _ _ _] => some [.own (.sl (.int .i64)), .obj] | _ => none))
theorem H37c29 : FnOk Tryd.prog 37 G37c29 := gn_ok Tryd.func37 (by kernel_rfl) (by kernel_rfl) ⟨H29c, trivial⟩
noncomputable def G28c29 := gn Tryd.f28 [(37, G37c29)] nrc nfz [] ⟨[], ⟨[9], [9000], [], []⟩⟩ 7 (fun l => (match l with | [_, .fn 29 _ _ _] => some [.own (.sl (.int .i64)), .obj] | _ => none))
theorem H28c29 : FnOk Tryd.prog 28 G28c29 := gn_ok Tryd.func28 (by kernel_rfl) (by kernel_rfl) ⟨H37c29, trivial⟩
noncomputable def G18 := gn Tryd.f18 [(15, G15), (28, G28c29)] nrc nfz [] ⟨[], ⟨[15], [], [], []⟩⟩ 13 (fun _ => some [.lend (.pair (.int .i64) (.pair (.sl (.sl (.int .i64))) (.unit))), .lend (.sl (.int .i64))])
theorem H18 : FnOk Tryd.prog 18 G18 := gn_ok Tryd.func18 (by kernel_rfl) (by kernel_rfl) ⟨H15, H28c29, trivial⟩
noncomputable def G8 := gn Tryd.f8 [(14, G14), (15, G15), (16, G16c17), (18, G18)] nrc nfz [(10, ⟨[1, 33, 34, 35], [1], [], []⟩)] ⟨[], ⟨[46], [], [], []⟩⟩ 45 (fun _ => some [.lend (.pair (.int .i64) (.pair (.sl (.sl (.int .i64))) (.unit)))])
theorem H8 : FnOk Tryd.prog 8 G8 := gn_ok Tryd.func8 (by kernel_rfl) (by kernel_rfl) ⟨H14, H15, H16c17, H18, trivial⟩
noncomputable def G9 := gn Tryd.f9 [(14, G14)] nrc nfz [(5, ⟨[2, 5, 11, 12, 13], [2], [], []⟩)] ⟨[], ⟨[31], [], [], []⟩⟩ 29 (fun _ => some [.lend (.pair (.int .i64) (.pair (.sl (.sl (.int .i64))) (.unit))), .lend (.sl (.int .i64))])
theorem H9 : FnOk Tryd.prog 9 G9 := gn_ok Tryd.func9 (by kernel_rfl) (by kernel_rfl) ⟨H14, trivial⟩
noncomputable def G4 := gn Tryd.f4 [(10, G10), (8, G8), (9, G9)] nrc nfz [(8, ⟨[7, 22, 23], [], [], []⟩)] ⟨[], ⟨[35, 36], [], [], []⟩⟩ 33 (fun _ => some [.lend (.pair (.int .i64) (.pair (.sl (.sl (.int .i64))) (.unit))), .lend (.sl (.int .i64))])
theorem H4 : FnOk Tryd.prog 4 G4 := gn_ok Tryd.func4 (by kernel_rfl) (by kernel_rfl) ⟨H10, H8, H9, trivial⟩
noncomputable def G7 := gn Tryd.f7 [(13, g13), (4, G4)] nrc nfz [] ⟨[], ⟨[22], [], [], []⟩⟩ 22 (fun _ => some [])
theorem H7 : FnOk Tryd.prog 7 G7 := gn_ok Tryd.func7 (by kernel_rfl) (by kernel_rfl) ⟨h13, H4, trivial⟩
theorem works7 : G7.ans [] [] = some ([.dv .bool true], []) := by kernel_rfl
def g7 : FnC := { ρ := Unit, sig := fun _ => some [], ans := fun l o => (match l, o with | [], [] => some () | _, _ => none), enc := fun _ _ _ => .dv .bool true, obs := fun _ _ _ => [] }
theorem h7 : FnOk Tryd.prog 7 g7 := fun args o x h => by
 simp only [g7] at h
 split at h
 ·exact H7 [] [] _ works7
 ·cases h
end Go.Proofs.YtfopcfnggdonkaaDoor
