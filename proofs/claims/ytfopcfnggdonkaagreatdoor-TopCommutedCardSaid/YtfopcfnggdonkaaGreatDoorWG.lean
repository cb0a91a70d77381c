/-
 The functions that the examples of the chapters reach, told by their reckoning.
-/
import Derived.Test.YtfopcfnggdonkaaGreatDoorGN
import Derived.Test.YtfopcfnggdonkaaGreatDoorPr
import Derived.Test.YtfopcfnggdonkaaGreatDoorFd
import Derived.Test.YtfopcfnggdonkaaGreatDoorWFB
import Derived.Test.YtfopcfnggdonkaaGreatDoorWFD
namespace Go.Proofs.YtfopcfnggdonkaaGreatDoor
open Go.Proofs.Tryz
open Go.RowKit
set_option linter.unusedVariables false
noncomputable section
def Yy := gn Tryz.f92 [] aY aW [(6, ⟨[13], [13], [], []⟩)] ⟨[], ⟨[23], [], [], []⟩⟩ 22 (fun _ => some [.aJ (.str)])
theorem H92 : aC prog 92 Yy := dA func92 (by kernel_rfl) trivial
def Yz := gn Tryz.f93 [] aY aW [(1000001, ⟨[], [1], [], []⟩)] ⟨[], ⟨[4], [], [], []⟩⟩ 3 (fun _ => some [.aJ (.str)])
theorem H93 : aC prog 93 Yz := dA func93 (by kernel_rfl) trivial
def G64 := gq Ul Tryz.f64 [(92, Yy), (93, Yz)] aY aW [(6, ⟨[1, 2, 3, 4, 13], [1, 2, 3, 4], [], []⟩)] ⟨[], ⟨[28, 29, 30], [], [], []⟩⟩ 27 (fun _ => some [.aJ (.str)])
theorem H64 : aC prog 64 G64 := at6 aBO func64 (by kernel_rfl) (by kernel_rfl) ⟨H92, H93, trivial⟩
def OB := gn Tryz.f113 [] aY aW [] ⟨[], ⟨[15], [], [], []⟩⟩ 12 (fun _ => some [.aJ (.int .i64), .aJ (.int .i64), .aJ (.int .i64)])
theorem UH : aC prog 113 OB := dA func113 (by kernel_rfl) trivial
def Xy := gn Tryz.f162 [] aY (fun i => ([25] : List Nat).contains i) [] ⟨[], ⟨[], [], [(.slot 27, 1500, .int .i64)], []⟩⟩ 25 (fun _ => some [.obj, .aJ (.int .i64)])
theorem amO : aC prog 162 Xy := dA func162 (by kernel_rfl) trivial
def Xl := gn Tryz.f147 [(162, Xy)] aY aW [(3, ⟨[0, 3, 9, 10, 11], [], [], []⟩), (11, ⟨[25, 26, 27], [], [(.slot 6, 1006, .int .i64)], []⟩)] ⟨[(36, .sl (.int .i64))], ⟨[36], [], [], []⟩⟩ 35 (fun _ => some [.own (.sl (.sl (.int .i64)))])
theorem amC : aC prog 147 Xl := dA func147 (by kernel_rfl) ⟨amO, trivial⟩
def Xn := gn Tryz.f149 [] aY aW [(3, ⟨[0, 3, 11, 12], [], [], []⟩), (7, ⟨[0, 3, 4, 5, 6, 11, 12, 16, 17], [5, 6], [], []⟩)] ⟨[], ⟨[49], [], [], []⟩⟩ 48 (fun _ => some [.aJ (.sl (.sl (.int .i64)))])
theorem amE : aC prog 149 Xn := dA func149 (by kernel_rfl) trivial
def Xm := gn Tryz.f148 [(113, OB)] aY aW [] ⟨[], ⟨[9], [9000], [], []⟩⟩ 7 (fun _ => some [.aJ (.int .i64), .obj])
theorem amD : aC prog 148 Xm := dA func148 (by kernel_rfl) ⟨UH, trivial⟩
def Yu := gn Tryz.f78 [(148, Xm)] aY aW [(2, ⟨[0, 1, 7, 8], [9000], [], []⟩)] ⟨[], ⟨[19], [9000], [], []⟩⟩ 17 (fun l => (match l with | [_, .fn 148 _ _ _] => some [.aJ (.sl (.int .i64)), .obj] | _ => none))
theorem amX : aC prog 78 Yu := dA func78 (by kernel_rfl) ⟨amD, trivial⟩
def Yi := gn Tryz.f45 [(78, Yu)] aY aW [] ⟨[], ⟨[9], [9000], [], []⟩⟩ 7 (fun l => (match l with | [_, .fn 148 _ _ _] => some [.aJ (.sl (.int .i64)), .obj] | _ => none))
theorem amT : aC prog 45 Yi := dA func45 (by kernel_rfl) ⟨amX, trivial⟩
def Xk := gn Tryz.f146 [] aY aW [] ⟨[], ⟨[8], [9000], [], []⟩⟩ 6 (fun _ => some [.aJ (.sl (.int .i64)), .obj])
theorem amB : aC prog 146 Xk := dA func146 (by kernel_rfl) trivial
def Zd := gn Tryz.f99 [(146, Xk)] aY aW [(2, ⟨[0, 1, 7, 8], [9000], [], []⟩)] ⟨[], ⟨[19], [9000], [], []⟩⟩ 17 (fun l => (match l with | [_, .fn 146 _ _ _] => some [.aJ (.sl (.sl (.int .i64))), .obj] | _ => none))
theorem am0 : aC prog 99 Zd := dA func99 (by kernel_rfl) ⟨amB, trivial⟩
def Yr := gn Tryz.f68 [(99, Zd)] aY aW [] ⟨[], ⟨[9], [9000], [], []⟩⟩ 7 (fun l => (match l with | [_, .fn 146 _ _ _] => some [.aJ (.sl (.sl (.int .i64))), .obj] | _ => none))
theorem amV : aC prog 68 Yr := dA func68 (by kernel_rfl) ⟨am0, trivial⟩
def Xb := gn Tryz.f133 [(113, OB), (147, Xl), (149, Xn), (45, Yi), (68, Yr)] aY aW [] ⟨[], ⟨[23], [], [], []⟩⟩ 22 (fun _ => some [.aJ (.sl (.sl (.int .i64)))])
theorem al2 : aC prog 133 Xb := dA func133 (by kernel_rfl) ⟨UH, amC, amE, amT, amV, trivial⟩
def Xc := gn Tryz.f134 [(113, OB)] aY aW [] ⟨[], ⟨[10], [9000], [], []⟩⟩ 8 (fun _ => some [.own (.int .i64), .obj])
theorem al3 : aC prog 134 Xc := dA func134 (by kernel_rfl) ⟨UH, trivial⟩
def Yt := gn Tryz.f78 [(134, Xc)] aY aW [(2, ⟨[0, 1, 7, 8], [9000], [], []⟩)] ⟨[], ⟨[19], [9000], [], []⟩⟩ 17 (fun l => (match l with | [_, .fn 134 _ _ _] => some [.own (.sl (.int .i64)), .obj] | _ => none))
theorem amW : aC prog 78 Yt := dA func78 (by kernel_rfl) ⟨al3, trivial⟩
def Yh := gn Tryz.f45 [(78, Yt)] aY aW [] ⟨[], ⟨[9], [9000], [], []⟩⟩ 7 (fun l => (match l with | [_, .fn 134 _ _ _] => some [.own (.sl (.int .i64)), .obj] | _ => none))
theorem amS : aC prog 45 Yh := dA func45 (by kernel_rfl) ⟨amW, trivial⟩
def Ws := gn Tryz.f125 [(133, Xb), (45, Yh)] aY aW [] ⟨[], ⟨[20], [], [], []⟩⟩ 18 (fun _ => some [.aJ (.sl (.sl (.int .i64))), .aJ (.sl (.int .i64))])
theorem alX : aC prog 125 Ws := dA func125 (by kernel_rfl) ⟨al2, amS, trivial⟩
def Xe := gn Tryz.f136 [] aY aW [] ⟨[], ⟨[13], [9000], [], []⟩⟩ 10 (fun _ => some [.own (.int .i64), .own (.int .i64), .obj])
theorem al5 : aC prog 136 Xe := dA func136 (by kernel_rfl) trivial
def Xd := gn Tryz.f135 [(136, Xe)] aY aW [(2, ⟨[0, 2, 9, 10, 11], [9000], [], []⟩)] ⟨[], ⟨[21], [9000], [], []⟩⟩ 18 (fun l => (match l with | [_, _, .fn 136 _ _ _] => some [.own (.int .i64), .own (.sl (.int .i64)), .obj] | _ => none))
theorem al4 : aC prog 135 Xd := dA func135 (by kernel_rfl) ⟨al5, trivial⟩
def Wu := gn Tryz.f126 [(135, Xd)] aY aW [] ⟨[], ⟨[11], [], [], []⟩⟩ 8 (fun _ => some [.aJ (.sl (.sl (.int .i64))), .aJ (.int .i64), .aJ (.sl (.int .i64))])
theorem alY : aC prog 126 Wu := dA func126 (by kernel_rfl) ⟨al4, trivial⟩
def Ib := gn Tryz.f110 [(125, Ws), (126, Wu)] aY aW [] ⟨[], ⟨[16, 17], [], [], []⟩⟩ 14 (fun _ => some [.aJ (.sl (.sl (.int .i64))), .aJ (.sl (.int .i64))])
theorem Ze : aC prog 110 Ib := dA func110 (by kernel_rfl) ⟨alX, alY, trivial⟩
def Xo := gn Tryz.f150 [] aY aW [] ⟨[], ⟨[15], [], [], []⟩⟩ 12 (fun _ => some [.aJ (.int .i64), .aJ (.int .i64), .aJ (.int .i64)])
theorem amF : aC prog 150 Xo := dA func150 (by kernel_rfl) trivial
def Xf := gn Tryz.f137 [(150, Xo)] aY aW [(7, ⟨[3, 14, 15, 16], [], [], []⟩)] ⟨[], ⟨[29], [], [], []⟩⟩ 28 (fun _ => some [.aJ (.sl (.int .i64))])
theorem al6 : aC prog 137 Xf := dA func137 (by kernel_rfl) ⟨amF, trivial⟩
def Xp := gn Tryz.f151 [] aY aW [(1, ⟨[0, 1], [], [], []⟩)] ⟨[], ⟨[17], [], [], []⟩⟩ 15 (fun _ => some [.aJ (.str), .aJ (.int .u8)])
theorem amG : aC prog 151 Xp := dA func151 (by kernel_rfl) trivial
def Xq := gn Tryz.f152 [] aY aW [(1, ⟨[0, 1], [], [], []⟩)] ⟨[], ⟨[23], [], [], []⟩⟩ 21 (fun _ => some [.aJ (.str), .aJ (.int .u8)])
theorem amH : aC prog 152 Xq := dA func152 (by kernel_rfl) trivial
def Xr := gn Tryz.f153 [] aY aW [(2, ⟨[0, 2, 4], [2], [], []⟩)] ⟨[(21, .arr 256 (.bool))], ⟨[21, 22], [], [], []⟩⟩ 20 (fun _ => some [.aJ (.str)])
theorem amI : aC prog 153 Xr := dA func153 (by kernel_rfl) trivial
def Ie := gn Tryz.f163 [] aY aW [] ⟨[], ⟨[10], [9000], [], []⟩⟩ 8 (fun _ => some [.obj, .aJ (.int .u8)])
theorem Zh : aC prog 163 Ie := dA func163 (by kernel_rfl) trivial
def Xt := gn Tryz.f154 [(163, Ie)] aY aW [(1, ⟨[0, 1], [9000], [], []⟩)] ⟨[], ⟨[16], [9000], [], []⟩⟩ 14 (fun _ => some [.aJ (.str), .obj])
theorem amJ : aC prog 154 Xt := dA func154 (by kernel_rfl) ⟨Zh, trivial⟩
def Xu := gn Tryz.f155 [(163, Ie)] aY aW [(1, ⟨[0, 1], [9000], [], []⟩)] ⟨[], ⟨[22], [9000], [], []⟩⟩ 20 (fun _ => some [.aJ (.str), .obj])
theorem amK : aC prog 155 Xu := dA func155 (by kernel_rfl) ⟨Zh, trivial⟩
def Ig := gn Tryz.f164 [(167, gz)] aY aW [] ⟨[], ⟨[9], [], [], []⟩⟩ 7 (fun _ => some [.aJ (.str), .aJ (.int .i32)])
theorem Zi : aC prog 164 Ig := dA func164 (by kernel_rfl) ⟨(Nu 167), trivial⟩
def Ij := gn Tryz.f84 [(103, gz)] aY aW [] ⟨[], ⟨[19, 20], [], [], []⟩⟩ 18 (fun _ => some [.aJ (.str)])
theorem Zl : aC prog 84 Ij := dA func84 (by kernel_rfl) ⟨(Nu 103), trivial⟩
def Xv := gn Tryz.f156 [(164, Ig), (84, Ij)] aY aW [(1, ⟨[0, 1], [], [], []⟩)] ⟨[], ⟨[23], [], [], []⟩⟩ 21 (fun _ => some [.aJ (.str), .aJ (.str)])
theorem amL : aC prog 156 Xv := dA func156 (by kernel_rfl) ⟨Zi, Zl, trivial⟩
def Ya := gn Tryz.f168 [] aY aW [] ⟨[], ⟨[6], [], [], []⟩⟩ 5 (fun _ => some [.aJ (.int .u8)])
theorem amQ : aC prog 168 Ya := dA func168 (by kernel_rfl) trivial
def Xz := gn Tryz.f165 [(168, Ya), (84, Ij)] aY aW [(10, ⟨[0, 4, 5, 6], [], [], []⟩)] ⟨[], ⟨[51, 52], [], [], []⟩⟩ 50 (fun _ => some [.aJ (.str)])
theorem amP : aC prog 165 Xz := dA func165 (by kernel_rfl) ⟨amQ, Zl, trivial⟩
def Xw := gn Tryz.f157 [(164, Ig), (165, Xz)] aY aW [(1, ⟨[0, 1], [], [], []⟩)] ⟨[], ⟨[34], [], [], []⟩⟩ 32 (fun _ => some [.aJ (.str), .aJ (.str)])
theorem amM : aC prog 157 Xw := dA func157 (by kernel_rfl) ⟨Zi, amP, trivial⟩
def Xg := gn Tryz.f138 [(151, Xp), (152, Xq), (153, Xr), (154, Xt), (155, Xu), (156, Xv), (157, Xw)] aY aW [] ⟨[], ⟨[43], [], [], []⟩⟩ 41 (fun _ => some [.aJ (.str), .aJ (.str)])
theorem al7 : aC prog 138 Xg := dA func138 (by kernel_rfl) ⟨amG, amH, amI, amJ, amK, amL, amM, trivial⟩
def Wv := gn Tryz.f127 [(137, Xf), (138, Xg)] aY aW [] ⟨[], ⟨[26], [], [], []⟩⟩ 25 (fun _ => some [.aJ (.pair (.sl (.int .i64)) (.pair (.str) (.unit)))])
theorem alZ : aC prog 127 Wv := dA func127 (by kernel_rfl) ⟨al6, al7, trivial⟩
def Xh := gn Tryz.f139 [] (fun i => ([(10, [some (.arr 7 (.pair (.int .i64) (.pair (.int .i64) (.unit)))), some (.arr 7 (.int .i64)), none]), (9, [some (.arr 7 (.pair (.int .i64) (.pair (.int .i64) (.unit)))), some (.arr 7 (.int .i64)), none])] : List (Nat × List (Option DT))).lookup i) aW [(4, ⟨[0, 3, 4, 11, 12, 13], [10, 8], [], []⟩)] ⟨[], ⟨[73], [8, 10], [], []⟩⟩ 72 (fun _ => some [.own (.sl (.int .i64))])
theorem al8 : aC prog 139 Xh := dA func139 (by kernel_rfl) trivial
def Yg := gn Tryz.f43 [] aY aW [] ⟨[(8, .gB (.int .i64))], ⟨[8], [], [], []⟩⟩ 7 (fun _ => some [.own (.gB (.int .i64))])
theorem H43 : aC prog 43 Yg := dA func43 (by kernel_rfl) trivial
def Wy := gn Tryz.f129 [(43, Yg)] aY aW [] ⟨[], ⟨[15], [9000, 9001], [], []⟩⟩ 11 (fun _ => some [.own (.sl (.int .i64)), .own (.str), .obj, .obj])
theorem al1 : aC prog 129 Wy := dA func129 (by kernel_rfl) ⟨H43, trivial⟩
def Xx := gn Tryz.f158 [] aY aW [] ⟨[], ⟨[32], [], [], []⟩⟩ 29 (fun _ => some [.aJ (.arr 7 (.int .i64)), .aJ (.int .i64), .aJ (.int .i64)])
theorem amN : aC prog 158 Xx := dA func158 (by kernel_rfl) trivial
def Xj := gn Tryz.f141 [(158, Xx)] aY aW [(3, ⟨[0, 2, 4, 7, 13, 14], [9000, 4, 9001], [], []⟩), (6, ⟨[0, 2, 4, 7, 8, 13, 14, 17, 18], [9000, 4, 9001], [], []⟩), (12, ⟨[0, 2, 4, 7, 8, 13, 14, 71, 72, 73], [9000, 4, 9001], [], []⟩)] ⟨[], ⟨[95], [9000, 9001], [], []⟩⟩ 92 (fun _ => some [.obj, .own (.arr 7 (.int .i64)), .own (.int .i64)])
theorem amA : aC prog 141 Xj := dA func141 (by kernel_rfl) ⟨amN, trivial⟩
def Ii := gn Tryz.f74 [] aY aW [(2, ⟨[0, 1, 7, 8], [], [], []⟩)] ⟨[], ⟨[19], [], [], []⟩⟩ 17 (fun _ => some [.aJ (.sl (.int .i64)), .aJ (.int .i64)])
theorem Zk : aC prog 74 Ii := dA func74 (by kernel_rfl) trivial
def Yf := gn Tryz.f41 [(74, Ii)] aY aW [] ⟨[], ⟨[9], [], [], []⟩⟩ 7 (fun _ => some [.aJ (.sl (.int .i64)), .aJ (.int .i64)])
theorem H41 : aC prog 41 Yf := dA func41 (by kernel_rfl) ⟨Zk, trivial⟩
def Ih := gn Tryz.f73 [] aY aW [] ⟨[(9, .jQ (.int .i64))], ⟨[9], [], [], []⟩⟩ 8 (fun _ => some [.own (.sl (.int .i64))])
theorem Zj : aC prog 73 Ih := dA func73 (by kernel_rfl) trivial
def Ic : Nat -> bJ
 | 0 => gz
 | k + 1 => gn Tryz.f140 [(129, Wy), (140, (Ic k)), (141, Xj), (142, (Hz Hq)), (41, Yf), (73, Ih)] aY aW [(4, ⟨[0, 3, 5, 30, 31], [9002, 9004, 9000, 9001, 9003, 9005, 9006, 9007, 9008], [], []⟩)] ⟨[], ⟨[51], [9000, 9001, 9002, 9003, 9004, 9005, 9006, 9007, 9008], [], []⟩⟩ 45 (fun _ => some [.own (.sl (.int .i64)), .obj, .obj, .obj, .obj, .obj])
theorem Zg : ∀ k, aC prog 140 (Ic k)
 | 0 => Nu _
 | k + 1 => dA func140 (by kernel_rfl) ⟨al1, (Zg k), amA, aoK, H41, Zj, trivial⟩
def Xi := Ic 60
theorem al9 : aC prog 140 Xi := Zg 60
def Wx := gn Tryz.f128 [(139, Xh), (140, Xi)] aY aW [] ⟨[], ⟨[], [9000, 9001], [], []⟩⟩ 10 (fun l => (match l with | [_, .fn 129 _ _ _] => some [.own (.sl (.int .i64)), .obj] | _ => none))
theorem al0 : aC prog 128 Wx := dA func128 (by kernel_rfl) ⟨al8, al9, trivial⟩
def Wl := gn Tryz.f111 [(127, Wv), (128, Wx)] (fun i => ([(5, [some (.gB (.int .i64))])] : List (Nat × List (Option DT))).lookup i) aW [] ⟨[(18, .sl (.int .i64))], ⟨[18, 19], [], [], []⟩⟩ 17 (fun _ => some [.own (.pair (.sl (.int .i64)) (.pair (.str) (.unit)))])
theorem alT : aC prog 111 Wl := dA func111 (by kernel_rfl) ⟨alZ, al0, trivial⟩
def Wn := gn Tryz.f114 [] aY aW [(1, ⟨[0, 1], [], [], []⟩)] ⟨[], ⟨[12], [], [], []⟩⟩ 10 (fun _ => some [.aJ (.int .i64), .aJ (.int .i64)])
theorem alU : aC prog 114 Wn := dA func114 (by kernel_rfl) trivial
def Il := gn Tryz.f96 [(113, OB), (114, Wn)] aY (fun i => ([26] : List Nat).contains i) [(7, ⟨[0, 1, 6, 28, 29], [26], [], []⟩), (10, ⟨[0, 1, 6, 7, 28, 29, 32, 33], [26], [], []⟩)] ⟨[(55, .sl (.sl (.int .i64)))], ⟨[55, 56], [], [], []⟩⟩ 53 (fun _ => some [.own (.int .i64), .own (.int .i64)])
theorem Zm : aC prog 96 Il := dA func96 (by kernel_rfl) ⟨UH, alU, trivial⟩
def Za := gn Tryz.f95 [(110, Ib), (111, Wl), (112, (TR Ho)), (96, Il)] aY aW [] ⟨[], ⟨[62], [], [], []⟩⟩ 62 (fun _ => some [])
theorem H95 : aC prog 95 Za := dA func95 (by kernel_rfl) ⟨Ze, alT, am9, Zm, trivial⟩
theorem aIC : Za.ans [] [] = some ([.dv .bool true], []) := by kernel_rfl
def Nq : bJ := { ρ := Unit, sig := fun _ => some [], ans := fun l o => (match l, o with | [], [] => some () | _, _ => none), enc := fun _ _ _ => .dv .bool true, bQ := fun _ _ _ => [] }
theorem h95 : aC prog 95 Nq := fun args o x h => by
 simp only [Nq] at h
 split at h
 ·exact H95 [] [] _ aIC
 ·cases h
def Yp := gn Tryz.f65 [(94, (UE Ht)), (95, Nq)] aY aW [] ⟨[], ⟨[19], [], [], []⟩⟩ 19 (fun _ => some [])
theorem H65 : aC prog 65 Yp := dA func65 (by kernel_rfl) ⟨K94, h95, trivial⟩
theorem aIA : Yp.ans [] [] = some ([.dv .bool true], []) := by kernel_rfl
def Nl : bJ := { ρ := Unit, sig := fun _ => some [], ans := fun l o => (match l, o with | [], [] => some () | _, _ => none), enc := fun _ _ _ => .dv .bool true, bQ := fun _ _ _ => [] }
theorem h65 : aC prog 65 Nl := fun args o x h => by
 simp only [Nl] at h
 split at h
 ·exact H65 [] [] _ aIA
 ·cases h
def Zb := gn Tryz.f97 [(110, Ib), (74, Ii)] aY aW [] ⟨[], ⟨[22, 23], [], [], []⟩⟩ 20 (fun _ => some [.aJ (.sl (.sl (.int .i64))), .aJ (.sl (.int .i64))])
theorem H97 : aC prog 97 Zb := dA func97 (by kernel_rfl) ⟨Ze, Zk, trivial⟩
def UG := gn Tryz.f58 [] aY aW [] ⟨[], ⟨[15], [], [], []⟩⟩ 12 (fun _ => some [.aJ (.int .i64), .aJ (.int .i64), .aJ (.int .i64)])
theorem Io : aC prog 58 UG := dA func58 (by kernel_rfl) trivial
def Wp := gn Tryz.f115 [(58, UG)] aY aW [(4, ⟨[2, 6, 7, 10, 11, 12], [2], [], []⟩)] ⟨[], ⟨[34, 35], [], [], []⟩⟩ 32 (fun _ => some [.aJ (.pair (.int .i64) (.pair (.sl (.sl (.int .i64))) (.unit))), .aJ (.sl (.int .i64))])
theorem alV : aC prog 115 Wp := dA func115 (by kernel_rfl) ⟨Io, trivial⟩
def Yl := gn Tryz.f59 [] aY aW [(5, ⟨[0, 3, 4], [], [], []⟩)] ⟨[], ⟨[25], [], [], []⟩⟩ 24 (fun _ => some [.aJ (.sl (.int .i64))])
theorem H59 : aC prog 59 Yl := dA func59 (by kernel_rfl) trivial
def Ym := gn Tryz.f60 [] aY aW [(5, ⟨[0, 3, 4], [], [], []⟩)] ⟨[], ⟨[25], [], [], []⟩⟩ 24 (fun _ => some [.aJ (.sl (.int .i64))])
theorem H60 : aC prog 60 Ym := dA func60 (by kernel_rfl) trivial
def Yc := gn Tryz.f26 [(59, Yl), (60, Ym)] aY aW [] ⟨[(22, .dX 119 (.int .i64) (.dX 120 (.sl (.int .i64)) (.kY)))], ⟨[22], [], [], []⟩⟩ 20 (fun _ => some [.own (.pair (.int .i64) (.pair (.sl (.sl (.int .i64))) (.unit))), .own (.int .i64)])
theorem H26 : aC prog 26 Yc := dA func26 (by kernel_rfl) ⟨H59, H60, trivial⟩
def Yb := gn Tryz.f195 [] aY aW [] ⟨[], ⟨[9], [], [], []⟩⟩ 7 (fun _ => some [.aJ (.sl (.int .i64)), .aJ (.int .i64)])
theorem amR : aC prog 195 Yb := dA func195 (by kernel_rfl) trivial
def Yo := gn Tryz.f62 [] aY aW [] ⟨[], ⟨[10], [], [], []⟩⟩ 8 (fun _ => some [.aJ (.int .u8), .aJ (.int .i64)])
theorem H62 : aC prog 62 Yo := dA func62 (by kernel_rfl) trivial
def Yd := gn Tryz.f28 [(62, Yo)] aY aW [(4, ⟨[4, 8], [], [(.slot 3, 1003, .int .i64)], []⟩)] ⟨[(20, .sl (.int .i64))], ⟨[20], [], [], []⟩⟩ 19 (fun _ => some [.own (.int .u8)])
theorem H28 : aC prog 28 Yd := dA func28 (by kernel_rfl) ⟨H62, trivial⟩
def Yx := gn Tryz.f91 [] aY aW [] ⟨[], ⟨[6], [], [], []⟩⟩ 4 (fun _ => some [.aJ (.int .i64), .aJ (.int .i64)])
theorem H91 : aC prog 91 Yx := dA func91 (by kernel_rfl) trivial
def Yn := gn Tryz.f61 [(195, Yb), (28, Yd), (91, Yx)] aY aW [(5, ⟨[6, 7, 13, 14, 15], [], [], []⟩)] ⟨[], ⟨[35], [], [], []⟩⟩ 33 (fun _ => some [.aJ (.int .u8), .aJ (.dX 119 (.int .i64) (.dX 120 (.sl (.int .i64)) (.kY)))])
theorem H61 : aC prog 61 Yn := dA func61 (by kernel_rfl) ⟨amR, H28, H91, trivial⟩
def Wq := gn Tryz.f116 [(26, Yc), (61, Yn), (73, Ih)] aY (fun i => ([27, 29] : List Nat).contains i) [(4, ⟨[1, 2, 6], [2, 13], [(.slot 7, 1007, .int .u8), (.slot 8, 1008, .sl (.int .i64))], []⟩), (10, ⟨[1, 2, 6, 9, 10, 38, 39], [2, 13], [(.slot 7, 1007, .int .u8), (.slot 8, 1008, .sl (.int .i64))], []⟩)] ⟨[(66, .sl (.int .i64))], ⟨[66, 67], [], [], []⟩⟩ 64 (fun _ => some [.own (.pair (.int .i64) (.pair (.sl (.sl (.int .i64))) (.unit))), .own (.int .u8)])
theorem alW : aC prog 116 Wq := dA func116 (by kernel_rfl) ⟨H26, H61, Zj, trivial⟩
def Yw := gn Tryz.f90 [(58, UG)] aY aW [] ⟨[], ⟨[10], [9000], [], []⟩⟩ 8 (fun _ => some [.own (.int .i64), .obj])
theorem amZ : aC prog 90 Yw := dA func90 (by kernel_rfl) ⟨Io, trivial⟩
def Yv := gn Tryz.f78 [(90, Yw)] aY aW [(2, ⟨[0, 1, 7, 8], [9000], [], []⟩)] ⟨[], ⟨[19], [9000], [], []⟩⟩ 17 (fun l => (match l with | [_, .fn 90 _ _ _] => some [.own (.sl (.int .i64)), .obj] | _ => none))
theorem amY : aC prog 78 Yv := dA func78 (by kernel_rfl) ⟨amZ, trivial⟩
def Yj := gn Tryz.f45 [(78, Yv)] aY aW [] ⟨[], ⟨[9], [9000], [], []⟩⟩ 7 (fun l => (match l with | [_, .fn 90 _ _ _] => some [.own (.sl (.int .i64)), .obj] | _ => none))
theorem amU : aC prog 45 Yj := dA func45 (by kernel_rfl) ⟨amY, trivial⟩
def Yk := gn Tryz.f56 [(45, Yj), (58, UG)] aY aW [(8, ⟨[1, 21, 22, 23], [1], [], []⟩)] ⟨[], ⟨[38], [], [], []⟩⟩ 37 (fun _ => some [.aJ (.pair (.int .i64) (.pair (.sl (.sl (.int .i64))) (.unit)))])
theorem H56 : aC prog 56 Yk := dA func56 (by kernel_rfl) ⟨amU, Io, trivial⟩
def Zc := gn Tryz.f98 [(115, Wp), (116, Wq), (56, Yk)] aY aW [] ⟨[(34, .sl (.int .i64))], ⟨[34, 35], [], [], []⟩⟩ 32 (fun _ => some [.own (.pair (.int .i64) (.pair (.sl (.sl (.int .i64))) (.unit))), .own (.sl (.int .i64))])
theorem H98 : aC prog 98 Zc := dA func98 (by kernel_rfl) ⟨alV, alW, H56, trivial⟩
def Yq := gn Tryz.f66 [(96, Il), (97, Zb), (98, Zc)] aY aW [] ⟨[], ⟨[49], [], [], []⟩⟩ 49 (fun _ => some [])
theorem H66 : aC prog 66 Yq := dA func66 (by kernel_rfl) ⟨Zm, H97, H98, trivial⟩
theorem aIB : Yq.ans [] [] = some ([.dv .bool true], []) := by kernel_rfl
def Np : bJ := { ρ := Unit, sig := fun _ => some [], ans := fun l o => (match l, o with | [], [] => some () | _, _ => none), enc := fun _ _ _ => .dv .bool true, bQ := fun _ _ _ => [] }
theorem h66 : aC prog 66 Np := fun args o x h => by
 simp only [Np] at h
 split at h
 ·exact H66 [] [] _ aIB
 ·cases h
def Ye := gn Tryz.f30 [(64, G64), (65, Nl), (66, Np)] aY aW [] ⟨[], ⟨[25], [], [], []⟩⟩ 25 (fun _ => some [])
theorem H30 : aC prog 30 Ye := dA func30 (by kernel_rfl) ⟨H64, h65, h66, trivial⟩
theorem aH' : Ye.ans [] [] = some ([.dv .bool true], []) := by kernel_rfl
def Nk : bJ := { ρ := Unit, sig := fun _ => some [], ans := fun l o => (match l, o with | [], [] => some () | _, _ => none), enc := fun _ _ _ => .dv .bool true, bQ := fun _ _ _ => [] }
theorem h30 : aC prog 30 Nk := fun args o x h => by
 simp only [Nk] at h
 split at h
 ·exact H30 [] [] _ aH'
 ·cases h
def Xa := gn Tryz.f13 [(29, (UA RZ)), (30, Nk)] aY aW [] ⟨[], ⟨[21], [], [], []⟩⟩ 21 (fun _ => some [])
theorem Zf : aC prog 13 Xa := dA func13 (by kernel_rfl) ⟨K29, h30, trivial⟩
theorem akR : Xa.ans [] [] = some ([.dv .bool true], []) := by kernel_rfl
def g13 : bJ := { ρ := Unit, sig := fun _ => some [], ans := fun l o => (match l, o with | [], [] => some () | _, _ => none), enc := fun _ _ _ => .dv .bool true, bQ := fun _ _ _ => [] }
theorem h13 : aC prog 13 g13 := fun args o x h => by
 simp only [g13] at h
 split at h
 ·exact Zf [] [] _ akR
 ·cases h
end
end Go.Proofs.YtfopcfnggdonkaaGreatDoor
