/-
 The functions that the examples of the chapters reach, told by their reckoning.
-/
import Derived.Test.YtfopcfnggdonkaaGreatDoorGN
import Derived.Test.YtfopcfnggdonkaaGreatDoorPr
import Derived.Test.YtfopcfnggdonkaaGreatDoorFd
import Derived.Test.YtfopcfnggdonkaaGreatDoorWFB
import Derived.Test.YtfopcfnggdonkaaGreatDoorWFD
namespace Go.Proofs.YtfopcfnggdonkaaGreatDoor
open Go.Proofs.Tryz
open Go.RowKit
set_option linter.unusedVariables false
noncomputable section
def G92 := gn Tryz.f92 [] aX aU [(6, ⟨[13], [13], [], []⟩)] ⟨[], ⟨[23], [], [], []⟩⟩ 22 (fun _ => some [.aO (.str)])
theorem H92 : aF prog 92 G92 := dL func92 (by kernel_rfl) trivial
def G93 := gn Tryz.f93 [] aX aU [(1000001, ⟨[], [1], [], []⟩)] ⟨[], ⟨[4], [], [], []⟩⟩ 3 (fun _ => some [.aO (.str)])
theorem H93 : aF prog 93 G93 := dL func93 (by kernel_rfl) trivial
def G64 := gq Yo Tryz.f64 [(92, G92), (93, G93)] aX aU [(6, ⟨[1, 2, 3, 4, 13], [1, 2, 3, 4], [], []⟩)] ⟨[], ⟨[28, 29, 30], [], [], []⟩⟩ 27 (fun _ => some [.aO (.str)])
theorem H64 : aF prog 64 G64 := avE aCV func64 (by kernel_rfl) (by kernel_rfl) ⟨H92, H93, trivial⟩
def QP := gn Tryz.f113 [] aX aU [] ⟨[], ⟨[15], [], [], []⟩⟩ 12 (fun _ => some [.aO (.int .i64), .aO (.int .i64), .aO (.int .i64)])
theorem XL : aF prog 113 QP := dL func113 (by kernel_rfl) trivial
def aa2 := gn Tryz.f162 [] aX (fun i => ([25] : List Nat).contains i) [] ⟨[], ⟨[], [], [(.slot 27, 1500, .int .i64)], []⟩⟩ 25 (fun _ => some [.obj, .aO (.int .i64)])
theorem anX : aF prog 162 aa2 := dL func162 (by kernel_rfl) trivial
def aaQ := gn Tryz.f147 [(162, aa2)] aX aU [(3, ⟨[0, 3, 9, 10, 11], [], [], []⟩), (11, ⟨[25, 26, 27], [], [(.slot 6, 1006, .int .i64)], []⟩)] ⟨[(36, .sl (.int .i64))], ⟨[36], [], [], []⟩⟩ 35 (fun _ => some [.own (.sl (.sl (.int .i64)))])
theorem anL : aF prog 147 aaQ := dL func147 (by kernel_rfl) ⟨anX, trivial⟩
def aaS := gn Tryz.f149 [] aX aU [(3, ⟨[0, 3, 11, 12], [], [], []⟩), (7, ⟨[0, 3, 4, 5, 6, 11, 12, 16, 17], [5, 6], [], []⟩)] ⟨[], ⟨[49], [], [], []⟩⟩ 48 (fun _ => some [.aO (.sl (.sl (.int .i64)))])
theorem anN : aF prog 149 aaS := dL func149 (by kernel_rfl) trivial
def aaR := gn Tryz.f148 [(113, QP)] aX aU [] ⟨[], ⟨[9], [9000], [], []⟩⟩ 7 (fun _ => some [.aO (.int .i64), .obj])
theorem anM : aF prog 148 aaR := dL func148 (by kernel_rfl) ⟨XL, trivial⟩
def abA := gn Tryz.f78 [(148, aaR)] aX aU [(2, ⟨[0, 1, 7, 8], [9000], [], []⟩)] ⟨[], ⟨[19], [9000], [], []⟩⟩ 17 (fun l => (match l with | [_, .fn 148 _ _ _] => some [.aO (.sl (.int .i64)), .obj] | _ => none))
theorem an6 : aF prog 78 abA := dL func78 (by kernel_rfl) ⟨anM, trivial⟩
def aa7 := gn Tryz.f45 [(78, abA)] aX aU [] ⟨[], ⟨[9], [9000], [], []⟩⟩ 7 (fun l => (match l with | [_, .fn 148 _ _ _] => some [.aO (.sl (.int .i64)), .obj] | _ => none))
theorem an2 : aF prog 45 aa7 := dL func45 (by kernel_rfl) ⟨an6, trivial⟩
def aaP := gn Tryz.f146 [] aX aU [] ⟨[], ⟨[8], [9000], [], []⟩⟩ 6 (fun _ => some [.aO (.sl (.int .i64)), .obj])
theorem anK : aF prog 146 aaP := dL func146 (by kernel_rfl) trivial
def abD := gn Tryz.f99 [(146, aaP)] aX aU [(2, ⟨[0, 1, 7, 8], [9000], [], []⟩)] ⟨[], ⟨[19], [9000], [], []⟩⟩ 17 (fun l => (match l with | [_, .fn 146 _ _ _] => some [.aO (.sl (.sl (.int .i64))), .obj] | _ => none))
theorem an9 : aF prog 99 abD := dL func99 (by kernel_rfl) ⟨anK, trivial⟩
def aa9 := gn Tryz.f68 [(99, abD)] aX aU [] ⟨[], ⟨[9], [9000], [], []⟩⟩ 7 (fun l => (match l with | [_, .fn 146 _ _ _] => some [.aO (.sl (.sl (.int .i64))), .obj] | _ => none))
theorem an4 : aF prog 68 aa9 := dL func68 (by kernel_rfl) ⟨an9, trivial⟩
def aaG := gn Tryz.f133 [(113, QP), (147, aaQ), (149, aaS), (45, aa7), (68, aa9)] aX aU [] ⟨[], ⟨[23], [], [], []⟩⟩ 22 (fun _ => some [.aO (.sl (.sl (.int .i64)))])
theorem anB : aF prog 133 aaG := dL func133 (by kernel_rfl) ⟨XL, anL, anN, an2, an4, trivial⟩
def aaH := gn Tryz.f134 [(113, QP)] aX aU [] ⟨[], ⟨[10], [9000], [], []⟩⟩ 8 (fun _ => some [.own (.int .i64), .obj])
theorem anC : aF prog 134 aaH := dL func134 (by kernel_rfl) ⟨XL, trivial⟩
def aa' := gn Tryz.f78 [(134, aaH)] aX aU [(2, ⟨[0, 1, 7, 8], [9000], [], []⟩)] ⟨[], ⟨[19], [9000], [], []⟩⟩ 17 (fun l => (match l with | [_, .fn 134 _ _ _] => some [.own (.sl (.int .i64)), .obj] | _ => none))
theorem an5 : aF prog 78 aa' := dL func78 (by kernel_rfl) ⟨anC, trivial⟩
def aa6 := gn Tryz.f45 [(78, aa')] aX aU [] ⟨[], ⟨[9], [9000], [], []⟩⟩ 7 (fun l => (match l with | [_, .fn 134 _ _ _] => some [.own (.sl (.int .i64)), .obj] | _ => none))
theorem an1 : aF prog 45 aa6 := dL func45 (by kernel_rfl) ⟨an5, trivial⟩
def aaB := gn Tryz.f125 [(133, aaG), (45, aa6)] aX aU [] ⟨[], ⟨[20], [], [], []⟩⟩ 18 (fun _ => some [.aO (.sl (.sl (.int .i64))), .aO (.sl (.int .i64))])
theorem am7 : aF prog 125 aaB := dL func125 (by kernel_rfl) ⟨anB, an1, trivial⟩
def aaJ := gn Tryz.f136 [] aX aU [] ⟨[], ⟨[13], [9000], [], []⟩⟩ 10 (fun _ => some [.own (.int .i64), .own (.int .i64), .obj])
theorem anE : aF prog 136 aaJ := dL func136 (by kernel_rfl) trivial
def aaI := gn Tryz.f135 [(136, aaJ)] aX aU [(2, ⟨[0, 2, 9, 10, 11], [9000], [], []⟩)] ⟨[], ⟨[21], [9000], [], []⟩⟩ 18 (fun l => (match l with | [_, _, .fn 136 _ _ _] => some [.own (.int .i64), .own (.sl (.int .i64)), .obj] | _ => none))
theorem anD : aF prog 135 aaI := dL func135 (by kernel_rfl) ⟨anE, trivial⟩
def aaC := gn Tryz.f126 [(135, aaI)] aX aU [] ⟨[], ⟨[11], [], [], []⟩⟩ 8 (fun _ => some [.aO (.sl (.sl (.int .i64))), .aO (.int .i64), .aO (.sl (.int .i64))])
theorem am8 : aF prog 126 aaC := dL func126 (by kernel_rfl) ⟨anD, trivial⟩
def Lu := gn Tryz.f110 [(125, aaB), (126, aaC)] aX aU [] ⟨[], ⟨[16, 17], [], [], []⟩⟩ 14 (fun _ => some [.aO (.sl (.sl (.int .i64))), .aO (.sl (.int .i64))])
theorem abE : aF prog 110 Lu := dL func110 (by kernel_rfl) ⟨am7, am8, trivial⟩
def aaT := gn Tryz.f150 [] aX aU [] ⟨[], ⟨[15], [], [], []⟩⟩ 12 (fun _ => some [.aO (.int .i64), .aO (.int .i64), .aO (.int .i64)])
theorem anO : aF prog 150 aaT := dL func150 (by kernel_rfl) trivial
def aaK := gn Tryz.f137 [(150, aaT)] aX aU [(7, ⟨[3, 14, 15, 16], [], [], []⟩)] ⟨[], ⟨[29], [], [], []⟩⟩ 28 (fun _ => some [.aO (.sl (.int .i64))])
theorem anF : aF prog 137 aaK := dL func137 (by kernel_rfl) ⟨anO, trivial⟩
def aaU := gn Tryz.f151 [] aX aU [(1, ⟨[0, 1], [], [], []⟩)] ⟨[], ⟨[17], [], [], []⟩⟩ 15 (fun _ => some [.aO (.str), .aO (.int .u8)])
theorem anP : aF prog 151 aaU := dL func151 (by kernel_rfl) trivial
def aaV := gn Tryz.f152 [] aX aU [(1, ⟨[0, 1], [], [], []⟩)] ⟨[], ⟨[23], [], [], []⟩⟩ 21 (fun _ => some [.aO (.str), .aO (.int .u8)])
theorem anQ : aF prog 152 aaV := dL func152 (by kernel_rfl) trivial
def aaW := gn Tryz.f153 [] aX aU [(2, ⟨[0, 2, 4], [2], [], []⟩)] ⟨[(21, .arr 256 (.bool))], ⟨[21, 22], [], [], []⟩⟩ 20 (fun _ => some [.aO (.str)])
theorem anR : aF prog 153 aaW := dL func153 (by kernel_rfl) trivial
def Me := gn Tryz.f163 [] aX aU [] ⟨[], ⟨[10], [9000], [], []⟩⟩ 8 (fun _ => some [.obj, .aO (.int .u8)])
theorem abH : aF prog 163 Me := dL func163 (by kernel_rfl) trivial
def aaX := gn Tryz.f154 [(163, Me)] aX aU [(1, ⟨[0, 1], [9000], [], []⟩)] ⟨[], ⟨[16], [9000], [], []⟩⟩ 14 (fun _ => some [.aO (.str), .obj])
theorem anS : aF prog 154 aaX := dL func154 (by kernel_rfl) ⟨abH, trivial⟩
def aaY := gn Tryz.f155 [(163, Me)] aX aU [(1, ⟨[0, 1], [9000], [], []⟩)] ⟨[], ⟨[22], [9000], [], []⟩⟩ 20 (fun _ => some [.aO (.str), .obj])
theorem anT : aF prog 155 aaY := dL func155 (by kernel_rfl) ⟨abH, trivial⟩
def Na := gn Tryz.f164 [(167, gz)] aX aU [] ⟨[], ⟨[9], [], [], []⟩⟩ 7 (fun _ => some [.aO (.str), .aO (.int .i32)])
theorem abI : aF prog 164 Na := dL func164 (by kernel_rfl) ⟨(Ry 167), trivial⟩
def Nh := gn Tryz.f84 [(103, gz)] aX aU [] ⟨[], ⟨[19, 20], [], [], []⟩⟩ 18 (fun _ => some [.aO (.str)])
theorem H84 : aF prog 84 Nh := dL func84 (by kernel_rfl) ⟨(Ry 103), trivial⟩
def aaZ := gn Tryz.f156 [(164, Na), (84, Nh)] aX aU [(1, ⟨[0, 1], [], [], []⟩)] ⟨[], ⟨[23], [], [], []⟩⟩ 21 (fun _ => some [.aO (.str), .aO (.str)])
theorem anU : aF prog 156 aaZ := dL func156 (by kernel_rfl) ⟨abI, H84, trivial⟩
def aa4 := gn Tryz.f168 [] aX aU [] ⟨[], ⟨[6], [], [], []⟩⟩ 5 (fun _ => some [.aO (.int .u8)])
theorem anZ : aF prog 168 aa4 := dL func168 (by kernel_rfl) trivial
def aa3 := gn Tryz.f165 [(168, aa4), (84, Nh)] aX aU [(10, ⟨[0, 4, 5, 6], [], [], []⟩)] ⟨[], ⟨[51, 52], [], [], []⟩⟩ 50 (fun _ => some [.aO (.str)])
theorem anY : aF prog 165 aa3 := dL func165 (by kernel_rfl) ⟨anZ, H84, trivial⟩
def aa0 := gn Tryz.f157 [(164, Na), (165, aa3)] aX aU [(1, ⟨[0, 1], [], [], []⟩)] ⟨[], ⟨[34], [], [], []⟩⟩ 32 (fun _ => some [.aO (.str), .aO (.str)])
theorem anV : aF prog 157 aa0 := dL func157 (by kernel_rfl) ⟨abI, anY, trivial⟩
def aaL := gn Tryz.f138 [(151, aaU), (152, aaV), (153, aaW), (154, aaX), (155, aaY), (156, aaZ), (157, aa0)] aX aU [] ⟨[], ⟨[43], [], [], []⟩⟩ 41 (fun _ => some [.aO (.str), .aO (.str)])
theorem anG : aF prog 138 aaL := dL func138 (by kernel_rfl) ⟨anP, anQ, anR, anS, anT, anU, anV, trivial⟩
def aaD := gn Tryz.f127 [(137, aaK), (138, aaL)] aX aU [] ⟨[], ⟨[26], [], [], []⟩⟩ 25 (fun _ => some [.aO (.pair (.sl (.int .i64)) (.pair (.str) (.unit)))])
theorem am9 : aF prog 127 aaD := dL func127 (by kernel_rfl) ⟨anF, anG, trivial⟩
def aaM := gn Tryz.f139 [] (fun i => ([(10, [some (.arr 7 (.pair (.int .i64) (.pair (.int .i64) (.unit)))), some (.arr 7 (.int .i64)), none]), (9, [some (.arr 7 (.pair (.int .i64) (.pair (.int .i64) (.unit)))), some (.arr 7 (.int .i64)), none])] : List (Nat × List (Option DT))).lookup i) aU [(4, ⟨[0, 3, 4, 11, 12, 13], [10, 8], [], []⟩)] ⟨[], ⟨[73], [8, 10], [], []⟩⟩ 72 (fun _ => some [.own (.sl (.int .i64))])
theorem anH : aF prog 139 aaM := dL func139 (by kernel_rfl) trivial
def G43 := gn Tryz.f43 [] aX aU [] ⟨[(8, .fJ (.int .i64))], ⟨[8], [], [], []⟩⟩ 7 (fun _ => some [.own (.fJ (.int .i64))])
theorem H43 : aF prog 43 G43 := dL func43 (by kernel_rfl) trivial
def aaF := gn Tryz.f129 [(43, G43)] aX aU [] ⟨[], ⟨[15], [9000, 9001], [], []⟩⟩ 11 (fun _ => some [.own (.sl (.int .i64)), .own (.str), .obj, .obj])
theorem anA : aF prog 129 aaF := dL func129 (by kernel_rfl) ⟨H43, trivial⟩
def aa1 := gn Tryz.f158 [] aX aU [] ⟨[], ⟨[32], [], [], []⟩⟩ 29 (fun _ => some [.aO (.arr 7 (.int .i64)), .aO (.int .i64), .aO (.int .i64)])
theorem anW : aF prog 158 aa1 := dL func158 (by kernel_rfl) trivial
def aaO := gn Tryz.f141 [(158, aa1)] aX aU [(3, ⟨[0, 2, 4, 7, 13, 14], [9000, 4, 9001], [], []⟩), (6, ⟨[0, 2, 4, 7, 8, 13, 14, 17, 18], [9000, 4, 9001], [], []⟩), (12, ⟨[0, 2, 4, 7, 8, 13, 14, 71, 72, 73], [9000, 4, 9001], [], []⟩)] ⟨[], ⟨[95], [9000, 9001], [], []⟩⟩ 92 (fun _ => some [.obj, .own (.arr 7 (.int .i64)), .own (.int .i64)])
theorem anJ : aF prog 141 aaO := dL func141 (by kernel_rfl) ⟨anW, trivial⟩
def Nc := gn Tryz.f74 [] aX aU [(2, ⟨[0, 1, 7, 8], [], [], []⟩)] ⟨[], ⟨[19], [], [], []⟩⟩ 17 (fun _ => some [.aO (.sl (.int .i64)), .aO (.int .i64)])
theorem H74 : aF prog 74 Nc := dL func74 (by kernel_rfl) trivial
def G41 := gn Tryz.f41 [(74, Nc)] aX aU [] ⟨[], ⟨[9], [], [], []⟩⟩ 7 (fun _ => some [.aO (.sl (.int .i64)), .aO (.int .i64)])
theorem H41 : aF prog 41 G41 := dL func41 (by kernel_rfl) ⟨H74, trivial⟩
def Nb := gn Tryz.f73 [] aX aU [] ⟨[(9, .jT (.int .i64))], ⟨[9], [], [], []⟩⟩ 8 (fun _ => some [.own (.sl (.int .i64))])
theorem H73 : aF prog 73 Nb := dL func73 (by kernel_rfl) trivial
def Mc : Nat -> bT
 | 0 => gz
 | k + 1 => gn Tryz.f140 [(129, aaF), (140, (Mc k)), (141, aaO), (142, (Lt Le)), (41, G41), (73, Nb)] aX aU [(4, ⟨[0, 3, 5, 30, 31], [9002, 9004, 9000, 9001, 9003, 9005, 9006, 9007, 9008], [], []⟩)] ⟨[], ⟨[51], [9000, 9001, 9002, 9003, 9004, 9005, 9006, 9007, 9008], [], []⟩⟩ 45 (fun _ => some [.own (.sl (.int .i64)), .obj, .obj, .obj, .obj, .obj])
theorem abG : ∀ k, aF prog 140 (Mc k)
 | 0 => Ry _
 | k + 1 => dL func140 (by kernel_rfl) ⟨anA, (abG k), anJ, ap0, H41, H73, trivial⟩
def aaN := Mc 60
theorem anI : aF prog 140 aaN := abG 60
def aaE := gn Tryz.f128 [(139, aaM), (140, aaN)] aX aU [] ⟨[], ⟨[], [9000, 9001], [], []⟩⟩ 10 (fun l => (match l with | [_, .fn 129 _ _ _] => some [.own (.sl (.int .i64)), .obj] | _ => none))
theorem am' : aF prog 128 aaE := dL func128 (by kernel_rfl) ⟨anH, anI, trivial⟩
def Zx := gn Tryz.f111 [(127, aaD), (128, aaE)] (fun i => ([(5, [some (.fJ (.int .i64))])] : List (Nat × List (Option DT))).lookup i) aU [] ⟨[(18, .sl (.int .i64))], ⟨[18, 19], [], [], []⟩⟩ 17 (fun _ => some [.own (.pair (.sl (.int .i64)) (.pair (.str) (.unit)))])
theorem am3 : aF prog 111 Zx := dL func111 (by kernel_rfl) ⟨am9, am', trivial⟩
def Zy := gn Tryz.f114 [] aX aU [(1, ⟨[0, 1], [], [], []⟩)] ⟨[], ⟨[12], [], [], []⟩⟩ 10 (fun _ => some [.aO (.int .i64), .aO (.int .i64)])
theorem am4 : aF prog 114 Zy := dL func114 (by kernel_rfl) trivial
def Nj := gn Tryz.f96 [(113, QP), (114, Zy)] aX (fun i => ([26] : List Nat).contains i) [(7, ⟨[0, 1, 6, 28, 29], [26], [], []⟩), (10, ⟨[0, 1, 6, 7, 28, 29, 32, 33], [26], [], []⟩)] ⟨[(55, .sl (.sl (.int .i64)))], ⟨[55, 56], [], [], []⟩⟩ 53 (fun _ => some [.own (.int .i64), .own (.int .i64)])
theorem H96 : aF prog 96 Nj := dL func96 (by kernel_rfl) ⟨XL, am4, trivial⟩
def G95 := gn Tryz.f95 [(110, Lu), (111, Zx), (112, (XD Ld)), (96, Nj)] aX aU [] ⟨[], ⟨[62], [], [], []⟩⟩ 62 (fun _ => some [])
theorem H95 : aF prog 95 G95 := dL func95 (by kernel_rfl) ⟨abE, am3, aoF, H96, trivial⟩
theorem aJ2 : G95.ans [] [] = some ([.dv .bool true], []) := by kernel_rfl
def Ru : bT := { ρ := Unit, sig := fun _ => some [], ans := fun l o => (match l, o with | [], [] => some () | _, _ => none), enc := fun _ _ _ => .dv .bool true, cZ := fun _ _ _ => [] }
theorem h95 : aF prog 95 Ru := fun args o x h => by
 simp only [Ru] at h
 split at h
 ·exact H95 [] [] _ aJ2
 ·cases h
def G65 := gn Tryz.f65 [(94, (XI Lm)), (95, Ru)] aX aU [] ⟨[], ⟨[19], [], [], []⟩⟩ 19 (fun _ => some [])
theorem H65 : aF prog 65 G65 := dL func65 (by kernel_rfl) ⟨K94, h95, trivial⟩
theorem aJ0 : G65.ans [] [] = some ([.dv .bool true], []) := by kernel_rfl
def Rq : bT := { ρ := Unit, sig := fun _ => some [], ans := fun l o => (match l, o with | [], [] => some () | _, _ => none), enc := fun _ _ _ => .dv .bool true, cZ := fun _ _ _ => [] }
theorem h65 : aF prog 65 Rq := fun args o x h => by
 simp only [Rq] at h
 split at h
 ·exact H65 [] [] _ aJ0
 ·cases h
def G97 := gn Tryz.f97 [(110, Lu), (74, Nc)] aX aU [] ⟨[], ⟨[22, 23], [], [], []⟩⟩ 20 (fun _ => some [.aO (.sl (.sl (.int .i64))), .aO (.sl (.int .i64))])
theorem H97 : aF prog 97 G97 := dL func97 (by kernel_rfl) ⟨abE, H74, trivial⟩
def XK := gn Tryz.f58 [] aX aU [] ⟨[], ⟨[15], [], [], []⟩⟩ 12 (fun _ => some [.aO (.int .i64), .aO (.int .i64), .aO (.int .i64)])
theorem Nk : aF prog 58 XK := dL func58 (by kernel_rfl) trivial
def Zz := gn Tryz.f115 [(58, XK)] aX aU [(4, ⟨[2, 6, 7, 10, 11, 12], [2], [], []⟩)] ⟨[], ⟨[34, 35], [], [], []⟩⟩ 32 (fun _ => some [.aO (.pair (.int .i64) (.pair (.sl (.sl (.int .i64))) (.unit))), .aO (.sl (.int .i64))])
theorem am5 : aF prog 115 Zz := dL func115 (by kernel_rfl) ⟨Nk, trivial⟩
def G59 := gn Tryz.f59 [] aX aU [(5, ⟨[0, 3, 4], [], [], []⟩)] ⟨[], ⟨[25], [], [], []⟩⟩ 24 (fun _ => some [.aO (.sl (.int .i64))])
theorem H59 : aF prog 59 G59 := dL func59 (by kernel_rfl) trivial
def G60 := gn Tryz.f60 [] aX aU [(5, ⟨[0, 3, 4], [], [], []⟩)] ⟨[], ⟨[25], [], [], []⟩⟩ 24 (fun _ => some [.aO (.sl (.int .i64))])
theorem H60 : aF prog 60 G60 := dL func60 (by kernel_rfl) trivial
def G26 := gn Tryz.f26 [(59, G59), (60, G60)] aX aU [] ⟨[(22, .iT 119 (.int .i64) (.iT 120 (.sl (.int .i64)) (.rY)))], ⟨[22], [], [], []⟩⟩ 20 (fun _ => some [.own (.pair (.int .i64) (.pair (.sl (.sl (.int .i64))) (.unit))), .own (.int .i64)])
theorem H26 : aF prog 26 G26 := dL func26 (by kernel_rfl) ⟨H59, H60, trivial⟩
def aa5 := gn Tryz.f195 [] aX aU [] ⟨[], ⟨[9], [], [], []⟩⟩ 7 (fun _ => some [.aO (.sl (.int .i64)), .aO (.int .i64)])
theorem an0 : aF prog 195 aa5 := dL func195 (by kernel_rfl) trivial
def G62 := gn Tryz.f62 [] aX aU [] ⟨[], ⟨[10], [], [], []⟩⟩ 8 (fun _ => some [.aO (.int .u8), .aO (.int .i64)])
theorem H62 : aF prog 62 G62 := dL func62 (by kernel_rfl) trivial
def G28 := gn Tryz.f28 [(62, G62)] aX aU [(4, ⟨[4, 8], [], [(.slot 3, 1003, .int .i64)], []⟩)] ⟨[(20, .sl (.int .i64))], ⟨[20], [], [], []⟩⟩ 19 (fun _ => some [.own (.int .u8)])
theorem H28 : aF prog 28 G28 := dL func28 (by kernel_rfl) ⟨H62, trivial⟩
def G91 := gn Tryz.f91 [] aX aU [] ⟨[], ⟨[6], [], [], []⟩⟩ 4 (fun _ => some [.aO (.int .i64), .aO (.int .i64)])
theorem H91 : aF prog 91 G91 := dL func91 (by kernel_rfl) trivial
def G61 := gn Tryz.f61 [(195, aa5), (28, G28), (91, G91)] aX aU [(5, ⟨[6, 7, 13, 14, 15], [], [], []⟩)] ⟨[], ⟨[35], [], [], []⟩⟩ 33 (fun _ => some [.aO (.int .u8), .aO (.iT 119 (.int .i64) (.iT 120 (.sl (.int .i64)) (.rY)))])
theorem H61 : aF prog 61 G61 := dL func61 (by kernel_rfl) ⟨an0, H28, H91, trivial⟩
def aaA := gn Tryz.f116 [(26, G26), (61, G61), (73, Nb)] aX (fun i => ([27, 29] : List Nat).contains i) [(4, ⟨[1, 2, 6], [2, 13], [(.slot 7, 1007, .int .u8), (.slot 8, 1008, .sl (.int .i64))], []⟩), (10, ⟨[1, 2, 6, 9, 10, 38, 39], [2, 13], [(.slot 7, 1007, .int .u8), (.slot 8, 1008, .sl (.int .i64))], []⟩)] ⟨[(66, .sl (.int .i64))], ⟨[66, 67], [], [], []⟩⟩ 64 (fun _ => some [.own (.pair (.int .i64) (.pair (.sl (.sl (.int .i64))) (.unit))), .own (.int .u8)])
theorem am6 : aF prog 116 aaA := dL func116 (by kernel_rfl) ⟨H26, H61, H73, trivial⟩
def abC := gn Tryz.f90 [(58, XK)] aX aU [] ⟨[], ⟨[10], [9000], [], []⟩⟩ 8 (fun _ => some [.own (.int .i64), .obj])
theorem an8 : aF prog 90 abC := dL func90 (by kernel_rfl) ⟨Nk, trivial⟩
def abB := gn Tryz.f78 [(90, abC)] aX aU [(2, ⟨[0, 1, 7, 8], [9000], [], []⟩)] ⟨[], ⟨[19], [9000], [], []⟩⟩ 17 (fun l => (match l with | [_, .fn 90 _ _ _] => some [.own (.sl (.int .i64)), .obj] | _ => none))
theorem an7 : aF prog 78 abB := dL func78 (by kernel_rfl) ⟨an8, trivial⟩
def aa8 := gn Tryz.f45 [(78, abB)] aX aU [] ⟨[], ⟨[9], [9000], [], []⟩⟩ 7 (fun l => (match l with | [_, .fn 90 _ _ _] => some [.own (.sl (.int .i64)), .obj] | _ => none))
theorem an3 : aF prog 45 aa8 := dL func45 (by kernel_rfl) ⟨an7, trivial⟩
def G56 := gn Tryz.f56 [(45, aa8), (58, XK)] aX aU [(8, ⟨[1, 21, 22, 23], [1], [], []⟩)] ⟨[], ⟨[38], [], [], []⟩⟩ 37 (fun _ => some [.aO (.pair (.int .i64) (.pair (.sl (.sl (.int .i64))) (.unit)))])
theorem H56 : aF prog 56 G56 := dL func56 (by kernel_rfl) ⟨an3, Nk, trivial⟩
def G98 := gn Tryz.f98 [(115, Zz), (116, aaA), (56, G56)] aX aU [] ⟨[(34, .sl (.int .i64))], ⟨[34, 35], [], [], []⟩⟩ 32 (fun _ => some [.own (.pair (.int .i64) (.pair (.sl (.sl (.int .i64))) (.unit))), .own (.sl (.int .i64))])
theorem H98 : aF prog 98 G98 := dL func98 (by kernel_rfl) ⟨am5, am6, H56, trivial⟩
def G66 := gn Tryz.f66 [(96, Nj), (97, G97), (98, G98)] aX aU [] ⟨[], ⟨[49], [], [], []⟩⟩ 49 (fun _ => some [])
theorem H66 : aF prog 66 G66 := dL func66 (by kernel_rfl) ⟨H96, H97, H98, trivial⟩
theorem aJ1 : G66.ans [] [] = some ([.dv .bool true], []) := by kernel_rfl
def Rt : bT := { ρ := Unit, sig := fun _ => some [], ans := fun l o => (match l, o with | [], [] => some () | _, _ => none), enc := fun _ _ _ => .dv .bool true, cZ := fun _ _ _ => [] }
theorem h66 : aF prog 66 Rt := fun args o x h => by
 simp only [Rt] at h
 split at h
 ·exact H66 [] [] _ aJ1
 ·cases h
def G30 := gn Tryz.f30 [(64, G64), (65, Rq), (66, Rt)] aX aU [] ⟨[], ⟨[25], [], [], []⟩⟩ 25 (fun _ => some [])
theorem H30 : aF prog 30 G30 := dL func30 (by kernel_rfl) ⟨H64, h65, h66, trivial⟩
theorem aJZ : G30.ans [] [] = some ([.dv .bool true], []) := by kernel_rfl
def Ro : bT := { ρ := Unit, sig := fun _ => some [], ans := fun l o => (match l, o with | [], [] => some () | _, _ => none), enc := fun _ _ _ => .dv .bool true, cZ := fun _ _ _ => [] }
theorem h30 : aF prog 30 Ro := fun args o x h => by
 simp only [Ro] at h
 split at h
 ·exact H30 [] [] _ aJZ
 ·cases h
def G13 := gn Tryz.f13 [(29, (XH VZ)), (30, Ro)] aX aU [] ⟨[], ⟨[21], [], [], []⟩⟩ 21 (fun _ => some [])
theorem H13 : aF prog 13 G13 := dL func13 (by kernel_rfl) ⟨K29, h30, trivial⟩
theorem amF : G13.ans [] [] = some ([.dv .bool true], []) := by kernel_rfl
def g13 : bT := { ρ := Unit, sig := fun _ => some [], ans := fun l o => (match l, o with | [], [] => some () | _, _ => none), enc := fun _ _ _ => .dv .bool true, cZ := fun _ _ _ => [] }
theorem h13 : aF prog 13 g13 := fun args o x h => by
 simp only [g13] at h
 split at h
 ·exact H13 [] [] _ amF
 ·cases h
end
end Go.Proofs.YtfopcfnggdonkaaGreatDoor
