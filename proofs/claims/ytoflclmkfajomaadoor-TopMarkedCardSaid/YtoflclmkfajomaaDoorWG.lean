/-
 The functions that the examples of the chapters reach, told by their reckoning.
-/
import Derived.Test.YtoflclmkfajomaaDoorGN
namespace Go.Proofs.YtoflclmkfajomaaDoor
open Go.RowKit
set_option linter.unusedVariables false
noncomputable def G23 := gn Tryd.f23 [] nrc nfz [] ⟨[], ⟨[8], [], [], []⟩⟩ 7 (fun _ => some [.lend (.pair (.int .i64) (.pair (.sl (.sl (.int .i64))) (.unit)))])
theorem H23 : FnOk Tryd.prog 23 G23 := gn_ok Tryd.func23 (by kernel_rfl) (by kernel_rfl) trivial
noncomputable def G40c := gn Tryd.f40 [(23, G23)] nrc nfz [] ⟨[], ⟨[9], [9000], [], []⟩⟩ 7 (fun _ => some [.own (.sl (.int .i64)), .obj])
theorem H40c : FnOk Tryd.prog 40 G40c := gn_ok Tryd.func40 (by kernel_rfl) (by kernel_rfl) ⟨H23, trivial⟩
noncomputable def G31c40 := gn Tryd.f31 [(40, G40c)] nrc nfz [(2, ⟨[0, 1, 7, 8], [9000], [], []⟩)] ⟨[], ⟨[19], [9000], [], []⟩⟩ 17 (fun l => (match l with | [_, .fn 40 _ _ _] => some [.own (.sl (.sl (.int .i64))), .obj] | _ => none))
theorem H31c40 : FnOk Tryd.prog 31 G31c40 := gn_ok Tryd.func31 (by kernel_rfl) (by kernel_rfl) ⟨H40c, trivial⟩
noncomputable def G13c40 := gn Tryd.f13 [(31, G31c40)] nrc nfz [] ⟨[], ⟨[9], [9000], [], []⟩⟩ 7 (fun l => (match l with | [_, .fn 40 _ _ _] => some [.own (.sl (.sl (.int .i64))), .obj] | _ => none))
theorem H13c40 : FnOk Tryd.prog 13 G13c40 := gn_ok Tryd.func13 (by kernel_rfl) (by kernel_rfl) ⟨H31c40, trivial⟩
noncomputable def G28 := gn Tryd.f28 [] nrc nfz [] ⟨[], ⟨[15], [], [], []⟩⟩ 12 (fun _ => some [.lend (.int .i64), .lend (.int .i64), .lend (.int .i64)])
theorem H28 : FnOk Tryd.prog 28 G28 := gn_ok Tryd.func28 (by kernel_rfl) (by kernel_rfl) trivial
noncomputable def G56c := gn Tryd.f56 [(28, G28)] nrc nfz [] ⟨[], ⟨[10], [9000], [], []⟩⟩ 8 (fun _ => some [.own (.int .i64), .obj])
theorem H56c : FnOk Tryd.prog 56 G56c := gn_ok Tryd.func56 (by kernel_rfl) (by kernel_rfl) ⟨H28, trivial⟩
noncomputable def G32c56 := gn Tryd.f32 [(56, G56c)] nrc nfz [(2, ⟨[0, 1, 7, 8], [9000], [], []⟩)] ⟨[], ⟨[19], [9000], [], []⟩⟩ 17 (fun l => (match l with | [_, .fn 56 _ _ _] => some [.own (.sl (.int .i64)), .obj] | _ => none))
theorem H32c56 : FnOk Tryd.prog 32 G32c56 := gn_ok Tryd.func32 (by kernel_rfl) (by kernel_rfl) ⟨H56c, trivial⟩
noncomputable def G15c56 := gn Tryd.f15 [(32, G32c56)] nrc nfz [] ⟨[], ⟨[9], [9000], [], []⟩⟩ 7 (fun l => (match l with | [_, .fn 56 _ _ _] => some [.own (.sl (.int .i64)), .obj] | _ => none))
theorem H15c56 : FnOk Tryd.prog 15 G15c56 := gn_ok Tryd.func15 (by kernel_rfl) (by kernel_rfl) ⟨H32c56, trivial⟩
noncomputable def G41 := gn Tryd.f41 [(15, G15c56), (23, G23)] nrc nfz [] ⟨[], ⟨[15], [], [], []⟩⟩ 13 (fun _ => some [.lend (.pair (.int .i64) (.pair (.sl (.sl (.int .i64))) (.unit))), .lend (.sl (.int .i64))])
theorem H41 : FnOk Tryd.prog 41 G41 := gn_ok Tryd.func41 (by kernel_rfl) (by kernel_rfl) ⟨H15c56, H23, trivial⟩
noncomputable def G22 := gn Tryd.f22 [(13, G13c40), (23, G23), (28, G28), (41, G41)] nrc nfz [(10, ⟨[1, 33, 34, 35], [1], [], []⟩)] ⟨[], ⟨[46], [], [], []⟩⟩ 45 (fun _ => some [.lend (.pair (.int .i64) (.pair (.sl (.sl (.int .i64))) (.unit)))])
theorem H22 : FnOk Tryd.prog 22 G22 := gn_ok Tryd.func22 (by kernel_rfl) (by kernel_rfl) ⟨H13c40, H23, H28, H41, trivial⟩
noncomputable def G36 := gn Tryd.f36 [(28, G28)] nrc nfz [(5, ⟨[2, 5, 11, 12, 13], [2], [], []⟩)] ⟨[], ⟨[31], [], [], []⟩⟩ 29 (fun _ => some [.lend (.pair (.int .i64) (.pair (.sl (.sl (.int .i64))) (.unit))), .lend (.sl (.int .i64))])
theorem H36 : FnOk Tryd.prog 36 G36 := gn_ok Tryd.func36 (by kernel_rfl) (by kernel_rfl) ⟨H28, trivial⟩
noncomputable def G49 := gn Tryd.f49 [] nrc nfz [(3, ⟨[2, 3, 8, 9, 10], [2, 3], [], []⟩), (6, ⟨[2, 3, 8, 9, 10, 14, 15, 16], [2, 3], [], []⟩)] ⟨[(31, .arr 8 (.int .u8))], ⟨[31], [], [], []⟩⟩ 30 (fun _ => some [.lend (.sl (.sl (.int .i64)))])
theorem H49 : FnOk Tryd.prog 49 G49 := gn_ok Tryd.func49 (by kernel_rfl) (by kernel_rfl) trivial
noncomputable def G37 := gn Tryd.f37 [(49, G49)] nrc nfz [(3, ⟨[2, 4, 5, 10, 11, 12], [2, 4, 5], [], []⟩), (6, ⟨[2, 4, 5, 10, 11, 12, 22, 23], [2, 4, 5], [], []⟩)] ⟨[(36, .arr 8 (.int .u8))], ⟨[36], [], [], []⟩⟩ 34 (fun _ => some [.lend (.pair (.int .i64) (.pair (.sl (.sl (.int .i64))) (.unit))), .lend (.sl (.int .i64))])
theorem H37 : FnOk Tryd.prog 37 G37 := gn_ok Tryd.func37 (by kernel_rfl) (by kernel_rfl) ⟨H49, trivial⟩
noncomputable def G20 := gn Tryd.f20 [(22, G22), (36, G36), (37, G37)] nrc nfz [(8, ⟨[7, 22, 23], [], [], []⟩)] ⟨[], ⟨[35, 36], [], [], []⟩⟩ 33 (fun _ => some [.lend (.pair (.int .i64) (.pair (.sl (.sl (.int .i64))) (.unit))), .lend (.sl (.int .i64))])
theorem H20 : FnOk Tryd.prog 20 G20 := gn_ok Tryd.func20 (by kernel_rfl) (by kernel_rfl) ⟨H22, H36, H37, trivial⟩
noncomputable def G72c := gn Tryd.f72 [] nrc nfz [] ⟨[], ⟨[11], [9000], [], []⟩⟩ 9 (fun _ => some [.own (.sl (.int .i64)), .obj])
theorem H72c : FnOk Tryd.prog 72 G72c := gn_ok Tryd.func72 (by kernel_rfl) (by kernel_rfl) trivial
noncomputable def G31c72 := gn Tryd.f31 [(72, G72c)] nrc nfz [(2, ⟨[0, 1, 7, 8], [9000], [], []⟩)] ⟨[], ⟨[19], [9000], [], []⟩⟩ 17 (fun l => (match l with | [_, .fn 72 _ _ _] => some [.own (.sl (.sl (.int .i64))), .obj] | _ => none))
theorem H31c72 : FnOk Tryd.prog 31 G31c72 := gn_ok Tryd.func31 (by kernel_rfl) (by kernel_rfl) ⟨H72c, trivial⟩
noncomputable def G13c72 := gn Tryd.f13 [(31, G31c72)] nrc nfz [] ⟨[], ⟨[9], [9000], [], []⟩⟩ 7 (fun l => (match l with | [_, .fn 72 _ _ _] => some [.own (.sl (.sl (.int .i64))), .obj] | _ => none))
theorem H13c72 : FnOk Tryd.prog 13 G13c72 := gn_ok Tryd.func13 (by kernel_rfl) (by kernel_rfl) ⟨H31c72, trivial⟩
noncomputable def G61 := gn Tryd.f61 [] nrc nfz [] ⟨[], ⟨[15], [], [], []⟩⟩ 12 (fun _ => some [.lend (.int .i64), .lend (.int .i64), .lend (.int .i64)])
theorem H61 : FnOk Tryd.prog 61 G61 := gn_ok Tryd.func61 (by kernel_rfl) (by kernel_rfl) trivial
noncomputable def G73 := gn Tryd.f73 [(61, G61)] nrc nfz [] ⟨[], ⟨[6], [], [], []⟩⟩ 5 (fun _ => some [.lend (.int .i64)])
theorem H73 : FnOk Tryd.prog 73 G73 := gn_ok Tryd.func73 (by kernel_rfl) (by kernel_rfl) ⟨H61, trivial⟩
noncomputable def G32c73 := gn Tryd.f32 [(73, G73)] nrc nfz [(2, ⟨[0, 1, 7, 8], [], [], []⟩)] ⟨[], ⟨[19], [], [], []⟩⟩ 17 (fun l => (match l with | [_, .fn 73 _ _ _] => some [.lend (.sl (.int .i64)), .obj] | _ => none))
theorem H32c73 : FnOk Tryd.prog 32 G32c73 := gn_ok Tryd.func32 (by kernel_rfl) (by kernel_rfl) ⟨H73, trivial⟩
noncomputable def G15c73 := gn Tryd.f15 [(32, G32c73)] nrc nfz [] ⟨[], ⟨[9], [], [], []⟩⟩ 7 (fun l => (match l with | [_, .fn 73 _ _ _] => some [.lend (.sl (.int .i64)), .obj] | _ => none))
theorem H15c73 : FnOk Tryd.prog 15 G15c73 := gn_ok Tryd.func15 (by kernel_rfl) (by kernel_rfl) ⟨H32c73, trivial⟩
noncomputable def G33c := gn Tryd.f33 [] nrc (fun i => ([25] : List Nat).contains i) [] ⟨[], ⟨[], [], [(.slot 27, 1500, .int .i64)], []⟩⟩ 25 (fun _ => some [.obj, .lend (.int .i64)])
theorem H33c : FnOk Tryd.prog 33 G33c := gn_ok Tryd.func33 (by kernel_rfl) (by kernel_rfl) trivial
noncomputable def G16 := gn Tryd.f16 [(33, G33c)] nrc nfz [(3, ⟨[0, 3, 9, 10, 11], [], [], []⟩), (11, ⟨[25, 26, 27], [], [(.slot 6, 1006, .int .i64)], []⟩)] ⟨[(36, .sl (.int .i64))], ⟨[36], [], [], []⟩⟩ 35 (fun _ => some [.own (.sl (.sl (.int .i64)))])
theorem H16 : FnOk Tryd.prog 16 G16 := gn_ok Tryd.func16 (by kernel_rfl) (by kernel_rfl) ⟨H33c, trivial⟩
noncomputable def G60 := gn Tryd.f60 [(13, G13c72), (15, G15c73), (16, G16), (61, G61)] nrc nfz [] ⟨[], ⟨[27], [], [], []⟩⟩ 26 (fun _ => some [.lend (.sl (.sl (.int .i64)))])
theorem H60 : FnOk Tryd.prog 60 G60 := gn_ok Tryd.func60 (by kernel_rfl) (by kernel_rfl) ⟨H13c72, H15c73, H16, H61, trivial⟩
noncomputable def G52 := gn Tryd.f52 [(60, G60), (61, G61)] nrc nfz [] ⟨[], ⟨[16], [], [], []⟩⟩ 14 (fun _ => some [.lend (.sl (.sl (.int .i64))), .lend (.int .i64)])
theorem H52 : FnOk Tryd.prog 52 G52 := gn_ok Tryd.func52 (by kernel_rfl) (by kernel_rfl) ⟨H60, H61, trivial⟩
noncomputable def G68 := gn Tryd.f68 [] nrc nfz [] ⟨[], ⟨[4], [], [], []⟩⟩ 3 (fun _ => some [.lend (.int .i64)])
theorem H68 : FnOk Tryd.prog 68 G68 := gn_ok Tryd.func68 (by kernel_rfl) (by kernel_rfl) trivial
noncomputable def G67c68 := gn Tryd.f67 [(68, G68)] nrc nfz [(3, ⟨[1, 5, 8, 9, 10], [], [], []⟩)] ⟨[], ⟨[21], [], [], []⟩⟩ 19 (fun l => (match l with | [_, .fn 68 _ _ _] => some [.lend (.sl (.int .i64)), .obj] | _ => none))
theorem H67c68 : FnOk Tryd.prog 67 G67c68 := gn_ok Tryd.func67 (by kernel_rfl) (by kernel_rfl) ⟨H68, trivial⟩
noncomputable def G75c := gn Tryd.f75 [] nrc nfz [] ⟨[], ⟨[8], [9000], [], []⟩⟩ 6 (fun _ => some [.lend (.sl (.int .i64)), .obj])
theorem H75c : FnOk Tryd.prog 75 G75c := gn_ok Tryd.func75 (by kernel_rfl) (by kernel_rfl) trivial
noncomputable def G74c75 := gn Tryd.f74 [(75, G75c)] nrc nfz [(3, ⟨[1, 5, 8, 9, 10], [9000], [], []⟩)] ⟨[], ⟨[21], [9000], [], []⟩⟩ 19 (fun l => (match l with | [_, .fn 75 _ _ _] => some [.lend (.sl (.sl (.int .i64))), .obj] | _ => none))
theorem H74c75 : FnOk Tryd.prog 74 G74c75 := gn_ok Tryd.func74 (by kernel_rfl) (by kernel_rfl) ⟨H75c, trivial⟩
noncomputable def G62 := gn Tryd.f62 [(67, G67c68), (74, G74c75)] nrc nfz [(2, ⟨[0, 3, 7, 8, 9], [], [(.slot 2, 1002, .int .i64)], []⟩), (7, ⟨[0, 2, 22, 23], [1002], [(.slot 3, 1003, .int .i64)], []⟩)] ⟨[(35, .sl (.int .i64)), (36, .sl (.int .i64))], ⟨[35, 36], [], [], []⟩⟩ 34 (fun _ => some [.own (.sl (.sl (.int .i64)))])
theorem H62 : FnOk Tryd.prog 62 G62 := gn_ok Tryd.func62 (by kernel_rfl) (by kernel_rfl) ⟨H67c68, H74c75, trivial⟩
noncomputable def G53 := gn Tryd.f53 [(62, G62)] (fun i => ([(5, [some (.sl (.int .i64))]), (6, [some (.sl (.int .i64))]), (15, [some (.int .i64), none]), (19, [some (.int .i64), none]), (21, [some (.int .i64), none]), (22, [])] : List (Nat × List (Option DT))).lookup i) nfz [] ⟨[], ⟨[23], [3, 5, 6, 22], [], []⟩⟩ 21 (fun _ => some [.own (.sl (.sl (.int .i64))), .own (.int .i64)])
theorem H53 : FnOk Tryd.prog 53 G53 := gn_ok Tryd.func53 (by kernel_rfl) (by kernel_rfl) ⟨H62, trivial⟩
noncomputable def G63c := gn Tryd.f63 [] nrc nfz [] ⟨[], ⟨[8], [9000], [], []⟩⟩ 6 (fun _ => some [.own (.int .i64), .obj])
theorem H63c : FnOk Tryd.prog 63 G63c := gn_ok Tryd.func63 (by kernel_rfl) (by kernel_rfl) trivial
noncomputable def G64c := gn Tryd.f64 [] nrc nfz [] ⟨[], ⟨[8], [9000], [], []⟩⟩ 6 (fun _ => some [.own (.int .i64), .obj])
theorem H64c : FnOk Tryd.prog 64 G64c := gn_ok Tryd.func64 (by kernel_rfl) (by kernel_rfl) trivial
noncomputable def G66 := gn Tryd.f66 [] nrc nfz [] ⟨[], ⟨[11], [], [], []⟩⟩ 9 (fun _ => some [.lend (.int .i64), .lend (.int .i64)])
theorem H66 : FnOk Tryd.prog 66 G66 := gn_ok Tryd.func66 (by kernel_rfl) (by kernel_rfl) trivial
noncomputable def G65c := gn Tryd.f65 [(66, G66), (67, G67c68)] nrc nfz [] ⟨[], ⟨[9], [9000, 9001], [], []⟩⟩ 6 (fun _ => some [.own (.int .i64), .obj, .obj])
theorem H65c : FnOk Tryd.prog 65 G65c := gn_ok Tryd.func65 (by kernel_rfl) (by kernel_rfl) ⟨H66, H67c68, trivial⟩
noncomputable def G38 := gn Tryd.f38 [(52, G52), (53, G53), (63, G63c), (64, G64c), (65, G65c)] (fun i => ([(9, [some (.int .i64), none]), (24, [some (.int .i64), none])] : List (Nat × List (Option DT))).lookup i) nfz [(6, ⟨[7, 19, 20, 21], [1190022, 1190005, 1190006, 1190003], [], []⟩), (9, ⟨[7, 9, 19, 20, 21, 26, 27], [9, 1190022, 1190005, 1190006, 1190003], [], []⟩)] ⟨[], ⟨[39, 40], [], [], []⟩⟩ 37 (fun _ => some [.lend (.sl (.sl (.int .i64))), .lend (.int .i64)])
theorem H38 : FnOk Tryd.prog 38 G38 := gn_ok Tryd.func38 (by kernel_rfl) (by kernel_rfl) ⟨H52, H53, H63c, H64c, H65c, trivial⟩
noncomputable def G69 := gn Tryd.f69 [] nrc nfz [] ⟨[], ⟨[15], [], [], []⟩⟩ 12 (fun _ => some [.lend (.int .i64), .lend (.int .i64), .lend (.int .i64)])
theorem H69 : FnOk Tryd.prog 69 G69 := gn_ok Tryd.func69 (by kernel_rfl) (by kernel_rfl) trivial
noncomputable def G54 := gn Tryd.f54 [(69, G69)] nrc nfz [(5, ⟨[0, 1, 6, 16, 17], [], [], []⟩), (9, ⟨[1, 6, 24, 25], [], [], []⟩)] ⟨[], ⟨[32, 33], [], [], []⟩⟩ 30 (fun _ => some [.lend (.int .i64), .lend (.int .i64)])
theorem H54 : FnOk Tryd.prog 54 G54 := gn_ok Tryd.func54 (by kernel_rfl) (by kernel_rfl) ⟨H69, trivial⟩
noncomputable def G12 := gn Tryd.f12 [] nrc nfz [] ⟨[], ⟨[15], [], [], []⟩⟩ 12 (fun _ => some [.lend (.int .i64), .lend (.int .i64), .lend (.int .i64)])
theorem H12 : FnOk Tryd.prog 12 G12 := gn_ok Tryd.func12 (by kernel_rfl) (by kernel_rfl) trivial
noncomputable def G57c := gn Tryd.f57 [(12, G12)] nrc nfz [] ⟨[], ⟨[10], [9000], [], []⟩⟩ 8 (fun _ => some [.own (.int .i64), .obj])
theorem H57c : FnOk Tryd.prog 57 G57c := gn_ok Tryd.func57 (by kernel_rfl) (by kernel_rfl) ⟨H12, trivial⟩
noncomputable def G32c57 := gn Tryd.f32 [(57, G57c)] nrc nfz [(2, ⟨[0, 1, 7, 8], [9000], [], []⟩)] ⟨[], ⟨[19], [9000], [], []⟩⟩ 17 (fun l => (match l with | [_, .fn 57 _ _ _] => some [.own (.sl (.int .i64)), .obj] | _ => none))
theorem H32c57 : FnOk Tryd.prog 32 G32c57 := gn_ok Tryd.func32 (by kernel_rfl) (by kernel_rfl) ⟨H57c, trivial⟩
noncomputable def G15c57 := gn Tryd.f15 [(32, G32c57)] nrc nfz [] ⟨[], ⟨[9], [9000], [], []⟩⟩ 7 (fun l => (match l with | [_, .fn 57 _ _ _] => some [.own (.sl (.int .i64)), .obj] | _ => none))
theorem H15c57 : FnOk Tryd.prog 15 G15c57 := gn_ok Tryd.func15 (by kernel_rfl) (by kernel_rfl) ⟨H32c57, trivial⟩
noncomputable def G14c := gn Tryd.f14 [] nrc nfz [] ⟨[], ⟨[8], [9000], [], []⟩⟩ 6 (fun _ => some [.lend (.sl (.int .i64)), .obj])
theorem H14c : FnOk Tryd.prog 14 G14c := gn_ok Tryd.func14 (by kernel_rfl) (by kernel_rfl) trivial
noncomputable def G31c14 := gn Tryd.f31 [(14, G14c)] nrc nfz [(2, ⟨[0, 1, 7, 8], [9000], [], []⟩)] ⟨[], ⟨[19], [9000], [], []⟩⟩ 17 (fun l => (match l with | [_, .fn 14 _ _ _] => some [.lend (.sl (.sl (.int .i64))), .obj] | _ => none))
theorem H31c14 : FnOk Tryd.prog 31 G31c14 := gn_ok Tryd.func31 (by kernel_rfl) (by kernel_rfl) ⟨H14c, trivial⟩
noncomputable def G13c14 := gn Tryd.f13 [(31, G31c14)] nrc nfz [] ⟨[], ⟨[9], [9000], [], []⟩⟩ 7 (fun l => (match l with | [_, .fn 14 _ _ _] => some [.lend (.sl (.sl (.int .i64))), .obj] | _ => none))
theorem H13c14 : FnOk Tryd.prog 13 G13c14 := gn_ok Tryd.func13 (by kernel_rfl) (by kernel_rfl) ⟨H31c14, trivial⟩
noncomputable def G17c := gn Tryd.f17 [(12, G12)] nrc nfz [] ⟨[], ⟨[9], [9000], [], []⟩⟩ 7 (fun _ => some [.lend (.int .i64), .obj])
theorem H17c : FnOk Tryd.prog 17 G17c := gn_ok Tryd.func17 (by kernel_rfl) (by kernel_rfl) ⟨H12, trivial⟩
noncomputable def G32c17 := gn Tryd.f32 [(17, G17c)] nrc nfz [(2, ⟨[0, 1, 7, 8], [9000], [], []⟩)] ⟨[], ⟨[19], [9000], [], []⟩⟩ 17 (fun l => (match l with | [_, .fn 17 _ _ _] => some [.lend (.sl (.int .i64)), .obj] | _ => none))
theorem H32c17 : FnOk Tryd.prog 32 G32c17 := gn_ok Tryd.func32 (by kernel_rfl) (by kernel_rfl) ⟨H17c, trivial⟩
noncomputable def G15c17 := gn Tryd.f15 [(32, G32c17)] nrc nfz [] ⟨[], ⟨[9], [9000], [], []⟩⟩ 7 (fun l => (match l with | [_, .fn 17 _ _ _] => some [.lend (.sl (.int .i64)), .obj] | _ => none))
theorem H15c17 : FnOk Tryd.prog 15 G15c17 := gn_ok Tryd.func15 (by kernel_rfl) (by kernel_rfl) ⟨H32c17, trivial⟩
noncomputable def G18 := gn Tryd.f18 [] nrc nfz [(3, ⟨[0, 3, 11, 12], [], [], []⟩), (7, ⟨[0, 3, 4, 5, 6, 11, 12, 16, 17], [5, 6], [], []⟩)] ⟨[], ⟨[49], [], [], []⟩⟩ 48 (fun _ => some [.lend (.sl (.sl (.int .i64)))])
theorem H18 : FnOk Tryd.prog 18 G18 := gn_ok Tryd.func18 (by kernel_rfl) (by kernel_rfl) trivial
noncomputable def G5 := gn Tryd.f5 [(12, G12), (13, G13c14), (15, G15c17), (16, G16), (18, G18)] nrc nfz [] ⟨[], ⟨[23], [], [], []⟩⟩ 22 (fun _ => some [.lend (.sl (.sl (.int .i64)))])
theorem H5 : FnOk Tryd.prog 5 G5 := gn_ok Tryd.func5 (by kernel_rfl) (by kernel_rfl) ⟨H12, H13c14, H15c17, H16, H18, trivial⟩
noncomputable def G50 := gn Tryd.f50 [(15, G15c57), (5, G5)] nrc nfz [] ⟨[], ⟨[20], [], [], []⟩⟩ 18 (fun _ => some [.lend (.sl (.sl (.int .i64))), .lend (.sl (.int .i64))])
theorem H50 : FnOk Tryd.prog 50 G50 := gn_ok Tryd.func50 (by kernel_rfl) (by kernel_rfl) ⟨H15c57, H5, trivial⟩
noncomputable def G59c := gn Tryd.f59 [] nrc nfz [] ⟨[], ⟨[13], [9000], [], []⟩⟩ 10 (fun _ => some [.own (.int .i64), .own (.int .i64), .obj])
theorem H59c : FnOk Tryd.prog 59 G59c := gn_ok Tryd.func59 (by kernel_rfl) (by kernel_rfl) trivial
noncomputable def G58c59 := gn Tryd.f58 [(59, G59c)] nrc nfz [(2, ⟨[0, 2, 9, 10, 11], [9000], [], []⟩)] ⟨[], ⟨[21], [9000], [], []⟩⟩ 18 (fun l => (match l with | [_, _, .fn 59 _ _ _] => some [.own (.int .i64), .own (.sl (.int .i64)), .obj] | _ => none))
theorem H58c59 : FnOk Tryd.prog 58 G58c59 := gn_ok Tryd.func58 (by kernel_rfl) (by kernel_rfl) ⟨H59c, trivial⟩
noncomputable def G51 := gn Tryd.f51 [(58, G58c59)] nrc nfz [] ⟨[], ⟨[11], [], [], []⟩⟩ 8 (fun _ => some [.lend (.sl (.sl (.int .i64))), .lend (.int .i64), .lend (.sl (.int .i64))])
theorem H51 : FnOk Tryd.prog 51 G51 := gn_ok Tryd.func51 (by kernel_rfl) (by kernel_rfl) ⟨H58c59, trivial⟩
noncomputable def G34 := gn Tryd.f34 [(50, G50), (51, G51)] nrc nfz [] ⟨[], ⟨[16, 17], [], [], []⟩⟩ 14 (fun _ => some [.lend (.sl (.sl (.int .i64))), .lend (.sl (.int .i64))])
theorem H34 : FnOk Tryd.prog 34 G34 := gn_ok Tryd.func34 (by kernel_rfl) (by kernel_rfl) ⟨H50, H51, trivial⟩
noncomputable def G35 := gn Tryd.f35 [] nrc nfz [(2, ⟨[0, 1, 7, 8], [], [], []⟩)] ⟨[], ⟨[19], [], [], []⟩⟩ 17 (fun _ => some [.lend (.sl (.int .i64)), .lend (.int .i64)])
theorem H35 : FnOk Tryd.prog 35 G35 := gn_ok Tryd.func35 (by kernel_rfl) (by kernel_rfl) trivial
noncomputable def G19 := gn Tryd.f19 [(34, G34), (35, G35)] nrc nfz [] ⟨[], ⟨[22, 23], [], [], []⟩⟩ 20 (fun _ => some [.lend (.sl (.sl (.int .i64))), .lend (.sl (.int .i64))])
theorem H19 : FnOk Tryd.prog 19 G19 := gn_ok Tryd.func19 (by kernel_rfl) (by kernel_rfl) ⟨H34, H35, trivial⟩
noncomputable def G76 := gn Tryd.f76 [] nrc nfz [(1, ⟨[0, 1], [], [], []⟩)] ⟨[], ⟨[12], [], [], []⟩⟩ 10 (fun _ => some [.lend (.int .i64), .lend (.int .i64)])
theorem H76 : FnOk Tryd.prog 76 G76 := gn_ok Tryd.func76 (by kernel_rfl) (by kernel_rfl) trivial
noncomputable def G70 := gn Tryd.f70 [(12, G12), (76, G76)] nrc (fun i => ([26] : List Nat).contains i) [(7, ⟨[0, 1, 6, 28, 29], [26], [], []⟩), (10, ⟨[0, 1, 6, 7, 28, 29, 32, 33], [26], [], []⟩)] ⟨[(55, .sl (.sl (.int .i64)))], ⟨[55, 56], [], [], []⟩⟩ 53 (fun _ => some [.own (.int .i64), .own (.int .i64)])
theorem H70 : FnOk Tryd.prog 70 G70 := gn_ok Tryd.func70 (by kernel_rfl) (by kernel_rfl) ⟨H12, H76, trivial⟩
noncomputable def G80 := gn Tryd.f80 [] nrc nfz [] ⟨[], ⟨[15], [], [], []⟩⟩ 12 (fun _ => some [.lend (.int .i64), .lend (.int .i64), .lend (.int .i64)])
theorem H80 : FnOk Tryd.prog 80 G80 := gn_ok Tryd.func80 (by kernel_rfl) (by kernel_rfl) trivial
noncomputable def G81c := gn Tryd.f81 [(80, G80)] nrc nfz [] ⟨[], ⟨[10], [9000], [], []⟩⟩ 8 (fun _ => some [.own (.int .i64), .obj])
theorem H81c : FnOk Tryd.prog 81 G81c := gn_ok Tryd.func81 (by kernel_rfl) (by kernel_rfl) ⟨H80, trivial⟩
noncomputable def G32c81 := gn Tryd.f32 [(81, G81c)] nrc nfz [(2, ⟨[0, 1, 7, 8], [9000], [], []⟩)] ⟨[], ⟨[19], [9000], [], []⟩⟩ 17 (fun l => (match l with | [_, .fn 81 _ _ _] => some [.own (.sl (.int .i64)), .obj] | _ => none))
theorem H32c81 : FnOk Tryd.prog 32 G32c81 := gn_ok Tryd.func32 (by kernel_rfl) (by kernel_rfl) ⟨H81c, trivial⟩
noncomputable def G15c81 := gn Tryd.f15 [(32, G32c81)] nrc nfz [] ⟨[], ⟨[9], [9000], [], []⟩⟩ 7 (fun l => (match l with | [_, .fn 81 _ _ _] => some [.own (.sl (.int .i64)), .obj] | _ => none))
theorem H15c81 : FnOk Tryd.prog 15 G15c81 := gn_ok Tryd.func15 (by kernel_rfl) (by kernel_rfl) ⟨H32c81, trivial⟩
noncomputable def G77 := gn Tryd.f77 [(15, G15c81), (80, G80)] nrc nfz [(8, ⟨[1, 21, 22, 23], [1], [], []⟩)] ⟨[], ⟨[38], [], [], []⟩⟩ 37 (fun _ => some [.lend (.pair (.int .i64) (.pair (.sl (.sl (.int .i64))) (.unit)))])
theorem H77 : FnOk Tryd.prog 77 G77 := gn_ok Tryd.func77 (by kernel_rfl) (by kernel_rfl) ⟨H15c81, H80, trivial⟩
noncomputable def G78 := gn Tryd.f78 [(80, G80)] nrc nfz [(4, ⟨[2, 6, 7, 10, 11, 12], [2], [], []⟩)] ⟨[], ⟨[34, 35], [], [], []⟩⟩ 32 (fun _ => some [.lend (.pair (.int .i64) (.pair (.sl (.sl (.int .i64))) (.unit))), .lend (.sl (.int .i64))])
theorem H78 : FnOk Tryd.prog 78 G78 := gn_ok Tryd.func78 (by kernel_rfl) (by kernel_rfl) ⟨H80, trivial⟩
noncomputable def G44 := gn Tryd.f44 [] nrc nfz [] ⟨[(9, .csl (.int .i64))], ⟨[9], [], [], []⟩⟩ 8 (fun _ => some [.own (.sl (.int .i64))])
theorem H44 : FnOk Tryd.prog 44 G44 := gn_ok Tryd.func44 (by kernel_rfl) (by kernel_rfl) trivial
noncomputable def G104 := gn Tryd.f104 [] nrc nfz [] ⟨[], ⟨[9], [], [], []⟩⟩ 7 (fun _ => some [.lend (.sl (.int .i64)), .lend (.int .i64)])
theorem H104 : FnOk Tryd.prog 104 G104 := gn_ok Tryd.func104 (by kernel_rfl) (by kernel_rfl) trivial
noncomputable def G84 := gn Tryd.f84 [] nrc nfz [] ⟨[], ⟨[6], [], [], []⟩⟩ 4 (fun _ => some [.lend (.int .i64), .lend (.int .i64)])
theorem H84 : FnOk Tryd.prog 84 G84 := gn_ok Tryd.func84 (by kernel_rfl) (by kernel_rfl) trivial
noncomputable def G88 := gn Tryd.f88 [] nrc nfz [] ⟨[], ⟨[10], [], [], []⟩⟩ 8 (fun _ => some [.lend (.int .u8), .lend (.int .i64)])
theorem H88 : FnOk Tryd.prog 88 G88 := gn_ok Tryd.func88 (by kernel_rfl) (by kernel_rfl) trivial
noncomputable def G85 := gn Tryd.f85 [(88, G88)] nrc nfz [(4, ⟨[4, 8], [], [(.slot 3, 1003, .int .i64)], []⟩)] ⟨[(20, .sl (.int .i64))], ⟨[20], [], [], []⟩⟩ 19 (fun _ => some [.own (.int .u8)])
theorem H85 : FnOk Tryd.prog 85 G85 := gn_ok Tryd.func85 (by kernel_rfl) (by kernel_rfl) ⟨H88, trivial⟩
noncomputable def G82 := gn Tryd.f82 [(104, G104), (84, G84), (85, G85)] nrc nfz [(5, ⟨[6, 7, 13, 14, 15], [], [], []⟩)] ⟨[], ⟨[35], [], [], []⟩⟩ 33 (fun _ => some [.lend (.int .u8), .lend (.ifc 110 (.int .i64) (.ifc 112 (.sl (.int .i64)) (.ifn)))])
theorem H82 : FnOk Tryd.prog 82 G82 := gn_ok Tryd.func82 (by kernel_rfl) (by kernel_rfl) ⟨H104, H84, H85, trivial⟩
noncomputable def G86 := gn Tryd.f86 [] nrc nfz [(5, ⟨[0, 3, 4], [], [], []⟩)] ⟨[], ⟨[25], [], [], []⟩⟩ 24 (fun _ => some [.lend (.sl (.int .i64))])
theorem H86 : FnOk Tryd.prog 86 G86 := gn_ok Tryd.func86 (by kernel_rfl) (by kernel_rfl) trivial
noncomputable def G87 := gn Tryd.f87 [] nrc nfz [(5, ⟨[0, 3, 4], [], [], []⟩)] ⟨[], ⟨[25], [], [], []⟩⟩ 24 (fun _ => some [.lend (.sl (.int .i64))])
theorem H87 : FnOk Tryd.prog 87 G87 := gn_ok Tryd.func87 (by kernel_rfl) (by kernel_rfl) trivial
noncomputable def G83 := gn Tryd.f83 [(86, G86), (87, G87)] nrc nfz [] ⟨[(22, .ifc 110 (.int .i64) (.ifc 112 (.sl (.int .i64)) (.ifn)))], ⟨[22], [], [], []⟩⟩ 20 (fun _ => some [.own (.pair (.int .i64) (.pair (.sl (.sl (.int .i64))) (.unit))), .own (.int .i64)])
theorem H83 : FnOk Tryd.prog 83 G83 := gn_ok Tryd.func83 (by kernel_rfl) (by kernel_rfl) ⟨H86, H87, trivial⟩
noncomputable def G79 := gn Tryd.f79 [(44, G44), (82, G82), (83, G83)] nrc (fun i => ([27, 29] : List Nat).contains i) [(4, ⟨[1, 2, 6], [2, 13], [(.slot 7, 1007, .int .u8), (.slot 8, 1008, .sl (.int .i64))], []⟩), (10, ⟨[1, 2, 6, 9, 10, 38, 39], [2, 13], [(.slot 7, 1007, .int .u8), (.slot 8, 1008, .sl (.int .i64))], []⟩)] ⟨[(66, .sl (.int .i64))], ⟨[66, 67], [], [], []⟩⟩ 64 (fun _ => some [.own (.pair (.int .i64) (.pair (.sl (.sl (.int .i64))) (.unit))), .own (.int .u8)])
theorem H79 : FnOk Tryd.prog 79 G79 := gn_ok Tryd.func79 (by kernel_rfl) (by kernel_rfl) ⟨H44, H82, H83, trivial⟩
noncomputable def G71 := gn Tryd.f71 [(77, G77), (78, G78), (79, G79)] nrc nfz [] ⟨[(34, .sl (.int .i64))], ⟨[34, 35], [], [], []⟩⟩ 32 (fun _ => some [.own (.pair (.int .i64) (.pair (.sl (.sl (.int .i64))) (.unit))), .own (.sl (.int .i64))])
theorem H71 : FnOk Tryd.prog 71 G71 := gn_ok Tryd.func71 (by kernel_rfl) (by kernel_rfl) ⟨H77, H78, H79, trivial⟩
noncomputable def G55 := gn Tryd.f55 [(19, G19), (70, G70), (71, G71)] nrc nfz [] ⟨[], ⟨[49], [], [], []⟩⟩ 49 (fun _ => some [])
theorem H55 : FnOk Tryd.prog 55 G55 := gn_ok Tryd.func55 (by kernel_rfl) (by kernel_rfl) ⟨H19, H70, H71, trivial⟩
theorem works55 : G55.ans [] [] = some ([.dv .bool true], []) := by kernel_rfl
def g55 : FnC := { ρ := Unit, sig := fun _ => some [], ans := fun l o => (match l, o with | [], [] => some () | _, _ => none), enc := fun _ _ _ => .dv .bool true, obs := fun _ _ _ => [] }
theorem h55 : FnOk Tryd.prog 55 g55 := fun args o x h => by
 simp only [g55] at h
 split at h
 ·exact H55 [] [] _ works55
 ·cases h
noncomputable def G39 := gn Tryd.f39 [(54, G54), (55, g55)] nrc nfz [] ⟨[], ⟨[16], [], [], []⟩⟩ 16 (fun _ => some [])
theorem H39 : FnOk Tryd.prog 39 G39 := gn_ok Tryd.func39 (by kernel_rfl) (by kernel_rfl) ⟨H54, h55, trivial⟩
theorem works39 : G39.ans [] [] = some ([.dv .bool true], []) := by kernel_rfl
def g39 : FnC := { ρ := Unit, sig := fun _ => some [], ans := fun l o => (match l, o with | [], [] => some () | _, _ => none), enc := fun _ _ _ => .dv .bool true, obs := fun _ _ _ => [] }
theorem h39 : FnOk Tryd.prog 39 g39 := fun args o x h => by
 simp only [g39] at h
 split at h
 ·exact H39 [] [] _ works39
 ·cases h
noncomputable def G21 := gn Tryd.f21 [(38, G38), (39, g39)] nrc nfz [] ⟨[], ⟨[19], [], [], []⟩⟩ 19 (fun _ => some [])
theorem H21 : FnOk Tryd.prog 21 G21 := gn_ok Tryd.func21 (by kernel_rfl) (by kernel_rfl) ⟨H38, h39, trivial⟩
theorem works21 : G21.ans [] [] = some ([.dv .bool true], []) := by kernel_rfl
def g21 : FnC := { ρ := Unit, sig := fun _ => some [], ans := fun l o => (match l, o with | [], [] => some () | _, _ => none), enc := fun _ _ _ => .dv .bool true, obs := fun _ _ _ => [] }
theorem h21 : FnOk Tryd.prog 21 g21 := fun args o x h => by
 simp only [g21] at h
 split at h
 ·exact H21 [] [] _ works21
 ·cases h
noncomputable def G7 := gn Tryd.f7 [(20, G20), (21, g21)] nrc nfz [] ⟨[], ⟨[22], [], [], []⟩⟩ 22 (fun _ => some [])
theorem H7 : FnOk Tryd.prog 7 G7 := gn_ok Tryd.func7 (by kernel_rfl) (by kernel_rfl) ⟨H20, h21, trivial⟩
theorem works7 : G7.ans [] [] = some ([.dv .bool true], []) := by kernel_rfl
def g7 : FnC := { ρ := Unit, sig := fun _ => some [], ans := fun l o => (match l, o with | [], [] => some () | _, _ => none), enc := fun _ _ _ => .dv .bool true, obs := fun _ _ _ => [] }
theorem h7 : FnOk Tryd.prog 7 g7 := fun args o x h => by
 simp only [g7] at h
 split at h
 ·exact H7 [] [] _ works7
 ·cases h
end Go.Proofs.YtoflclmkfajomaaDoor
