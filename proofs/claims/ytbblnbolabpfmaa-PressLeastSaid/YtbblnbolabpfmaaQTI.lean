/-
  What the heap-free logic is told of this seat's types; each fact is asked of the program by the kernel. Written by a program (gen_ti.py).
-/
import Derived.Test.YtbblnbolabpfmaaQU
import Derived.Test.YtbblnbolabpfmaaRows
namespace Go.Proofs.Ytbblnbolabpfmaa
set_option maxRecDepth 100000

theorem ti1 : TFact Try.prog 1 { kd := 1, size := 1, zero := .nilFunc } := TFact.cell (fun w => by kernel_rfl) (by kernel_rfl) rfl
theorem ti2 : TFact Try.prog 2 { kd := 1, size := 1, zero := .int .i64 0, ik := some .i64 } := TFact.int1 (by kernel_rfl) (by kernel_rfl)
theorem ti3 : TFact Try.prog 3 { kd := 1, size := 1, zero := .int .i64 0, ik := some .i64 } := TFact.int1 (by kernel_rfl) (by kernel_rfl)
theorem ti4 : TFact Try.prog 4 { kd := 1, size := 1, zero := .bool false, bl := true } := TFact.bool1 (by kernel_rfl) (by kernel_rfl)
theorem ti5 : TFact Try.prog 5 { kd := 1, size := 1, zero := .int .u8 0, ik := some .u8 } := TFact.int1 (by kernel_rfl) (by kernel_rfl)
theorem ti6 : TFact Try.prog 6 { kd := 1, size := 1, zero := .int .u8 0, ik := some .u8 } := TFact.int1 (by kernel_rfl) (by kernel_rfl)
theorem ti7 : TFact Try.prog 7 { kd := 4, size := 4, zero := .agg #[(.int .i64 (0)), (.int .i64 (0)), (.bool false), (.int .u8 (0))], offs := [(0, 1), (1, 1), (2, 1), (3, 1)] } := TFact.struct1 (fs := _) (z := #[(.int .i64 (0)), (.int .i64 (0)), (.bool false), (.int .u8 (0))]) (offs := [(0, 1), (1, 1), (2, 1), (3, 1)]) rfl (by kernel_rfl) (by kernel_rfl) (by rfl) (by rfl) (by decide) (by decide)
theorem ti8 : TFact Try.prog 8 { kd := 4, size := 4, zero := .agg #[(.int .i64 (0)), (.int .i64 (0)), (.bool false), (.int .u8 (0))], offs := [(0, 1), (1, 1), (2, 1), (3, 1)] } := TFact.struct1 (fs := _) (z := #[(.int .i64 (0)), (.int .i64 (0)), (.bool false), (.int .u8 (0))]) (offs := [(0, 1), (1, 1), (2, 1), (3, 1)]) rfl (by kernel_rfl) (by kernel_rfl) (by rfl) (by rfl) (by decide) (by decide)
theorem ti9 : TFact Try.prog 9 { kd := 1, size := 1, zero := .string ⟨⟨[]⟩⟩, st := true } := TFact.str1 (by kernel_rfl) (by kernel_rfl)
theorem ti10 : TFact Try.prog 10 { kd := 1, size := 1, zero := .string ⟨⟨[]⟩⟩, st := true } := TFact.str1 (by kernel_rfl) (by kernel_rfl)
theorem ti11 : TFact Try.prog 11 { kd := 1, size := 1, zero := .string ⟨⟨[]⟩⟩, st := true } := TFact.str1 (by kernel_rfl) (by kernel_rfl)
theorem ti12 : TFact Try.prog 12 { kd := 1, size := 1, zero := .int .u64 0, ik := some .u64 } := TFact.int1 (by kernel_rfl) (by kernel_rfl)
theorem ti13 : TFact Try.prog 13 { kd := 4, size := 2, zero := .agg #[(.string ⟨⟨[]⟩⟩), (.int .u64 (0))], offs := [(0, 1), (1, 1)] } := TFact.struct1 (fs := _) (z := #[(.string ⟨⟨[]⟩⟩), (.int .u64 (0))]) (offs := [(0, 1), (1, 1)]) rfl (by kernel_rfl) (by kernel_rfl) (by rfl) (by rfl) (by decide) (by decide)
theorem ti14 : TFact Try.prog 14 { kd := 4, size := 2, zero := .agg #[(.string ⟨⟨[]⟩⟩), (.int .u64 (0))], offs := [(0, 1), (1, 1)] } := TFact.struct1 (fs := _) (z := #[(.string ⟨⟨[]⟩⟩), (.int .u64 (0))]) (offs := [(0, 1), (1, 1)]) rfl (by kernel_rfl) (by kernel_rfl) (by rfl) (by rfl) (by decide) (by decide)
theorem ti15 : TFact Try.prog 15 { kd := 1, size := 1, zero := .pointer none, pt := true } := TFact.ptr1 (e := 129) (by kernel_rfl) (by kernel_rfl)
theorem ti16 : TFact Try.prog 16 { kd := 1, size := 1, zero := .pointer none, pt := true } := TFact.ptr1 (e := 132) (by kernel_rfl) (by kernel_rfl)
theorem ti17 : TFact Try.prog 17 { kd := 1, size := 1, zero := .pointer none, pt := true } := TFact.ptr1 (e := 141) (by kernel_rfl) (by kernel_rfl)
theorem ti18 : TFact Try.prog 18 { kd := 4, size := 1, zero := .agg #[(.pointer none)], offs := [(0, 1)] } := TFact.struct1 (fs := _) (z := #[(.pointer none)]) (offs := [(0, 1)]) rfl (by kernel_rfl) (by kernel_rfl) (by rfl) (by rfl) (by decide) (by decide)
theorem ti19 : TFact Try.prog 19 { kd := 4, size := 1, zero := .agg #[(.pointer none)], offs := [(0, 1)] } := TFact.struct1 (fs := _) (z := #[(.pointer none)]) (offs := [(0, 1)]) rfl (by kernel_rfl) (by kernel_rfl) (by rfl) (by rfl) (by decide) (by decide)
theorem ti20 : TFact Try.prog 20 { kd := 1, size := 1, zero := .nilIface } := TFact.cell (fun w => by kernel_rfl) (by kernel_rfl) rfl
theorem ti21 : TFact Try.prog 21 { kd := 1, size := 1, zero := .int .i32 0, ik := some .i32 } := TFact.int1 (by kernel_rfl) (by kernel_rfl)
theorem ti22 : TFact Try.prog 22 { kd := 2, size := 1, zero := .slice none 0 0, elem := 2, eb := 16, ez := .agg #[(.int .i64 (0)), (.int .i64 (0))] } := TFact.slice1 (e := 56) (ze := .agg #[(.int .i64 (0)), (.int .i64 (0))]) (by kernel_rfl) (by kernel_rfl) (by kernel_rfl) (by rfl) (by rfl) (by decide)
theorem ti23 : TFact Try.prog 23 { kd := 2, size := 1, zero := .slice none 0 0, elem := 1, eb := 8, ez := .int .i64 (0) } := TFact.slice1 (e := 3) (ze := .int .i64 (0)) (by kernel_rfl) (by kernel_rfl) (by kernel_rfl) (by rfl) (by rfl) (by decide)
theorem ti24 : TFact Try.prog 24 { kd := 1, size := 1, zero := .nilFunc } := TFact.cell (fun w => by kernel_rfl) (by kernel_rfl) rfl
theorem ti25 : TFact Try.prog 25 { kd := 2, size := 1, zero := .slice none 0 0, elem := 2, eb := 16, ez := .agg #[(.int .i64 (0)), (.int .i64 (0))] } := TFact.slice1 (e := 65) (ze := .agg #[(.int .i64 (0)), (.int .i64 (0))]) (by kernel_rfl) (by kernel_rfl) (by kernel_rfl) (by rfl) (by rfl) (by decide)
theorem ti26 : TFact Try.prog 26 { kd := 1, size := 1, zero := .nilFunc } := TFact.cell (fun w => by kernel_rfl) (by kernel_rfl) rfl
theorem ti27 : TFact Try.prog 27 { kd := 1, size := 1, zero := .int .i64 0, ik := some .i64 } := TFact.int1 (by kernel_rfl) (by kernel_rfl)
theorem ti29 : TFact Try.prog 29 { kd := 1, size := 1, zero := .nilFunc } := TFact.cell (fun w => by kernel_rfl) (by kernel_rfl) rfl
theorem ti30 : TFact Try.prog 30 { kd := 1, size := 1, zero := .nilFunc } := TFact.cell (fun w => by kernel_rfl) (by kernel_rfl) rfl
theorem ti31 : TFact Try.prog 31 { kd := 1, size := 1, zero := .nilFunc } := TFact.cell (fun w => by kernel_rfl) (by kernel_rfl) rfl
theorem ti32 : TFact Try.prog 32 { kd := 1, size := 1, zero := .nilFunc } := TFact.cell (fun w => by kernel_rfl) (by kernel_rfl) rfl
theorem ti34 : TFact Try.prog 34 { kd := 1, size := 1, zero := .nilFunc } := TFact.cell (fun w => by kernel_rfl) (by kernel_rfl) rfl
theorem ti35 : TFact Try.prog 35 { kd := 1, size := 1, zero := .nilFunc } := TFact.cell (fun w => by kernel_rfl) (by kernel_rfl) rfl
theorem ti36 : TFact Try.prog 36 { kd := 1, size := 1, zero := .nilFunc } := TFact.cell (fun w => by kernel_rfl) (by kernel_rfl) rfl
theorem ti37 : TFact Try.prog 37 { kd := 1, size := 1, zero := .nilFunc } := TFact.cell (fun w => by kernel_rfl) (by kernel_rfl) rfl
theorem ti38 : TFact Try.prog 38 { kd := 1, size := 1, zero := .nilFunc } := TFact.cell (fun w => by kernel_rfl) (by kernel_rfl) rfl
theorem ti39 : TFact Try.prog 39 { kd := 1, size := 1, zero := .nilFunc } := TFact.cell (fun w => by kernel_rfl) (by kernel_rfl) rfl
theorem ti40 : TFact Try.prog 40 { kd := 1, size := 1, zero := .nilFunc } := TFact.cell (fun w => by kernel_rfl) (by kernel_rfl) rfl
theorem ti41 : TFact Try.prog 41 { kd := 1, size := 1, zero := .nilFunc } := TFact.cell (fun w => by kernel_rfl) (by kernel_rfl) rfl
theorem ti42 : TFact Try.prog 42 { kd := 1, size := 1, zero := .nilFunc } := TFact.cell (fun w => by kernel_rfl) (by kernel_rfl) rfl
theorem ti44 : TFact Try.prog 44 { kd := 1, size := 1, zero := .nilFunc } := TFact.cell (fun w => by kernel_rfl) (by kernel_rfl) rfl
theorem ti45 : TFact Try.prog 45 { kd := 1, size := 1, zero := .nilFunc } := TFact.cell (fun w => by kernel_rfl) (by kernel_rfl) rfl
theorem ti46 : TFact Try.prog 46 { kd := 1, size := 1, zero := .nilFunc } := TFact.cell (fun w => by kernel_rfl) (by kernel_rfl) rfl
theorem ti47 : TFact Try.prog 47 { kd := 1, size := 1, zero := .nilFunc } := TFact.cell (fun w => by kernel_rfl) (by kernel_rfl) rfl
theorem ti48 : TFact Try.prog 48 { kd := 1, size := 1, zero := .nilFunc } := TFact.cell (fun w => by kernel_rfl) (by kernel_rfl) rfl
theorem ti49 : TFact Try.prog 49 { kd := 2, size := 1, zero := .slice none 0 0, elem := 2, eb := 2, ez := .agg #[(.int .u8 (0)), (.int .u8 (0))] } := TFact.slice1 (e := 80) (ze := .agg #[(.int .u8 (0)), (.int .u8 (0))]) (by kernel_rfl) (by kernel_rfl) (by kernel_rfl) (by rfl) (by rfl) (by decide)
theorem ti50 : TFact Try.prog 50 { kd := 2, size := 1, zero := .slice none 0 0, elem := 2, eb := 2, ez := .agg #[(.int .u8 (0)), (.int .u8 (0))] } := TFact.slice1 (e := 80) (ze := .agg #[(.int .u8 (0)), (.int .u8 (0))]) (by kernel_rfl) (by kernel_rfl) (by kernel_rfl) (by rfl) (by rfl) (by decide)
theorem ti51 : TFact Try.prog 51 { kd := 1, size := 1, zero := .nilFunc } := TFact.cell (fun w => by kernel_rfl) (by kernel_rfl) rfl
theorem ti53 : TFact Try.prog 53 { kd := 1, size := 1, zero := .nilFunc } := TFact.cell (fun w => by kernel_rfl) (by kernel_rfl) rfl
theorem ti54 : TFact Try.prog 54 { kd := 1, size := 1, zero := .map none, mp := some (3, 4), mkv := some (.int .i64, .bool) } := TFact.map1 (by kernel_rfl) (by kernel_rfl) (q := some (.int .i64, .bool)) (mkv_of (z := .bool false) (mapKey_int (by kernel_rfl)) (by kernel_rfl) (by rfl) (by rfl))
theorem ti55 : TFact Try.prog 55 { kd := 4, size := 2, zero := .agg #[(.int .i64 (0)), (.int .i64 (0))], offs := [(0, 1), (1, 1)], eqd := some (.pair (.int .i64) (.pair (.int .i64) (.unit))) } := TFact.withEq (TFact.struct1 (fs := _) (z := #[(.int .i64 (0)), (.int .i64 (0))]) (offs := [(0, 1), (1, 1)]) rfl (by kernel_rfl) (by kernel_rfl) (by rfl) (by rfl) (by decide) (by decide)) (some (.pair (.int .i64) (.pair (.int .i64) (.unit)))) (eq_struct (ks := [.i64, .i64]) (by simp) (by kernel_rfl) (by kernel_rfl) (by kernel_rfl) (by kernel_rfl))
theorem ti56 : TFact Try.prog 56 { kd := 4, size := 2, zero := .agg #[(.int .i64 (0)), (.int .i64 (0))], offs := [(0, 1), (1, 1)], eqd := some (.pair (.int .i64) (.pair (.int .i64) (.unit))) } := TFact.withEq (TFact.struct1 (fs := _) (z := #[(.int .i64 (0)), (.int .i64 (0))]) (offs := [(0, 1), (1, 1)]) rfl (by kernel_rfl) (by kernel_rfl) (by rfl) (by rfl) (by decide) (by decide)) (some (.pair (.int .i64) (.pair (.int .i64) (.unit)))) (eq_struct (ks := [.i64, .i64]) (by simp) (by kernel_rfl) (by kernel_rfl) (by kernel_rfl) (by kernel_rfl))
theorem ti57 : TFact Try.prog 57 { kd := 1, size := 1, zero := .nilFunc } := TFact.cell (fun w => by kernel_rfl) (by kernel_rfl) rfl
theorem ti58 : TFact Try.prog 58 { kd := 1, size := 1, zero := .nilFunc } := TFact.cell (fun w => by kernel_rfl) (by kernel_rfl) rfl
theorem ti59 : TFact Try.prog 59 { kd := 1, size := 1, zero := .nilFunc } := TFact.cell (fun w => by kernel_rfl) (by kernel_rfl) rfl
theorem ti60 : TFact Try.prog 60 { kd := 1, size := 1, zero := .nilFunc } := TFact.cell (fun w => by kernel_rfl) (by kernel_rfl) rfl
theorem ti61 : TFact Try.prog 61 { kd := 1, size := 1, zero := .nilFunc } := TFact.cell (fun w => by kernel_rfl) (by kernel_rfl) rfl
theorem ti62 : TFact Try.prog 62 { kd := 3, size := 6, zero := .agg #[(.int .u8 (0)), (.int .u8 (0)), (.int .u8 (0)), (.int .u8 (0)), (.int .u8 (0)), (.int .u8 (0))], elem := 1, eb := 1, ez := .int .u8 (0), len := 6, one1 := true, eqd := some (.arr 6 (.int .u8)) } := TFact.array1 (e := 5) (ze := .int .u8 (0)) (z := #[(.int .u8 (0)), (.int .u8 (0)), (.int .u8 (0)), (.int .u8 (0)), (.int .u8 (0)), (.int .u8 (0))]) (by kernel_rfl) (by kernel_rfl) (by kernel_rfl) (by rfl) (by rfl) (by decide) (o1 := true) (fun _ w => by kernel_rfl) (q := some (.arr 6 (.int .u8))) (eq_arr (e := 5) (by kernel_rfl) (by kernel_rfl) (by kernel_rfl) (fun w => by kernel_rfl) (by kernel_rfl) (by kernel_rfl))
theorem ti63 : TFact Try.prog 63 { kd := 1, size := 1, zero := .nilFunc } := TFact.cell (fun w => by kernel_rfl) (by kernel_rfl) rfl
theorem ti64 : TFact Try.prog 64 { kd := 1, size := 1, zero := .nilFunc } := TFact.cell (fun w => by kernel_rfl) (by kernel_rfl) rfl
theorem ti65 : TFact Try.prog 65 { kd := 4, size := 2, zero := .agg #[(.int .i64 (0)), (.int .i64 (0))], offs := [(0, 1), (1, 1)], eqd := some (.pair (.int .i64) (.pair (.int .i64) (.unit))) } := TFact.withEq (TFact.struct1 (fs := _) (z := #[(.int .i64 (0)), (.int .i64 (0))]) (offs := [(0, 1), (1, 1)]) rfl (by kernel_rfl) (by kernel_rfl) (by rfl) (by rfl) (by decide) (by decide)) (some (.pair (.int .i64) (.pair (.int .i64) (.unit)))) (eq_struct (ks := [.i64, .i64]) (by simp) (by kernel_rfl) (by kernel_rfl) (by kernel_rfl) (by kernel_rfl))
theorem ti66 : TFact Try.prog 66 { kd := 1, size := 1, zero := .nilFunc } := TFact.cell (fun w => by kernel_rfl) (by kernel_rfl) rfl
theorem ti67 : TFact Try.prog 67 { kd := 1, size := 1, zero := .nilFunc } := TFact.cell (fun w => by kernel_rfl) (by kernel_rfl) rfl
theorem ti68 : TFact Try.prog 68 { kd := 1, size := 1, zero := .nilFunc } := TFact.cell (fun w => by kernel_rfl) (by kernel_rfl) rfl
theorem ti69 : TFact Try.prog 69 { kd := 1, size := 1, zero := .nilFunc } := TFact.cell (fun w => by kernel_rfl) (by kernel_rfl) rfl
theorem ti70 : TFact Try.prog 70 { kd := 1, size := 1, zero := .nilFunc } := TFact.cell (fun w => by kernel_rfl) (by kernel_rfl) rfl
theorem ti71 : TFact Try.prog 71 { kd := 1, size := 1, zero := .nilFunc } := TFact.cell (fun w => by kernel_rfl) (by kernel_rfl) rfl
theorem ti72 : TFact Try.prog 72 { kd := 1, size := 1, zero := .nilFunc } := TFact.cell (fun w => by kernel_rfl) (by kernel_rfl) rfl
theorem ti73 : TFact Try.prog 73 { kd := 1, size := 1, zero := .nilFunc } := TFact.cell (fun w => by kernel_rfl) (by kernel_rfl) rfl
theorem ti74 : TFact Try.prog 74 { kd := 1, size := 1, zero := .nilFunc } := TFact.cell (fun w => by kernel_rfl) (by kernel_rfl) rfl
theorem ti75 : TFact Try.prog 75 { kd := 1, size := 1, zero := .nilFunc } := TFact.cell (fun w => by kernel_rfl) (by kernel_rfl) rfl
theorem ti76 : TFact Try.prog 76 { kd := 1, size := 1, zero := .nilFunc } := TFact.cell (fun w => by kernel_rfl) (by kernel_rfl) rfl
theorem ti77 : TFact Try.prog 77 { kd := 1, size := 1, zero := .nilFunc } := TFact.cell (fun w => by kernel_rfl) (by kernel_rfl) rfl
theorem ti78 : TFact Try.prog 78 { kd := 1, size := 1, zero := .nilFunc } := TFact.cell (fun w => by kernel_rfl) (by kernel_rfl) rfl
theorem ti79 : TFact Try.prog 79 { kd := 3, size := 31, zero := .agg #[(.int .i64 (0)), (.int .i64 (0)), (.int .i64 (0)), (.int .i64 (0)), (.int .i64 (0)), (.int .i64 (0)), (.int .i64 (0)), (.int .i64 (0)), (.int .i64 (0)), (.int .i64 (0)), (.int .i64 (0)), (.int .i64 (0)), (.int .i64 (0)), (.int .i64 (0)), (.int .i64 (0)), (.int .i64 (0)), (.int .i64 (0)), (.int .i64 (0)), (.int .i64 (0)), (.int .i64 (0)), (.int .i64 (0)), (.int .i64 (0)), (.int .i64 (0)), (.int .i64 (0)), (.int .i64 (0)), (.int .i64 (0)), (.int .i64 (0)), (.int .i64 (0)), (.int .i64 (0)), (.int .i64 (0)), (.int .i64 (0))], elem := 1, eb := 8, ez := .int .i64 (0), len := 31, one1 := true, eqd := some (.arr 31 (.int .i64)) } := TFact.array1 (e := 3) (ze := .int .i64 (0)) (z := #[(.int .i64 (0)), (.int .i64 (0)), (.int .i64 (0)), (.int .i64 (0)), (.int .i64 (0)), (.int .i64 (0)), (.int .i64 (0)), (.int .i64 (0)), (.int .i64 (0)), (.int .i64 (0)), (.int .i64 (0)), (.int .i64 (0)), (.int .i64 (0)), (.int .i64 (0)), (.int .i64 (0)), (.int .i64 (0)), (.int .i64 (0)), (.int .i64 (0)), (.int .i64 (0)), (.int .i64 (0)), (.int .i64 (0)), (.int .i64 (0)), (.int .i64 (0)), (.int .i64 (0)), (.int .i64 (0)), (.int .i64 (0)), (.int .i64 (0)), (.int .i64 (0)), (.int .i64 (0)), (.int .i64 (0)), (.int .i64 (0))]) (by kernel_rfl) (by kernel_rfl) (by kernel_rfl) (by rfl) (by rfl) (by decide) (o1 := true) (fun _ w => by kernel_rfl) (q := some (.arr 31 (.int .i64))) (eq_arr (e := 3) (by kernel_rfl) (by kernel_rfl) (by kernel_rfl) (fun w => by kernel_rfl) (by kernel_rfl) (by kernel_rfl))
theorem ti80 : TFact Try.prog 80 { kd := 3, size := 2, zero := .agg #[(.int .u8 (0)), (.int .u8 (0))], elem := 1, eb := 1, ez := .int .u8 (0), len := 2, one1 := true, eqd := some (.arr 2 (.int .u8)) } := TFact.array1 (e := 5) (ze := .int .u8 (0)) (z := #[(.int .u8 (0)), (.int .u8 (0))]) (by kernel_rfl) (by kernel_rfl) (by kernel_rfl) (by rfl) (by rfl) (by decide) (o1 := true) (fun _ w => by kernel_rfl) (q := some (.arr 2 (.int .u8))) (eq_arr (e := 5) (by kernel_rfl) (by kernel_rfl) (by kernel_rfl) (fun w => by kernel_rfl) (by kernel_rfl) (by kernel_rfl))
theorem ti81 : TFact Try.prog 81 { kd := 1, size := 1, zero := .nilFunc } := TFact.cell (fun w => by kernel_rfl) (by kernel_rfl) rfl
theorem ti82 : TFact Try.prog 82 { kd := 1, size := 1, zero := .nilFunc } := TFact.cell (fun w => by kernel_rfl) (by kernel_rfl) rfl
theorem ti83 : TFact Try.prog 83 { kd := 1, size := 1, zero := .nilFunc } := TFact.cell (fun w => by kernel_rfl) (by kernel_rfl) rfl
theorem ti84 : TFact Try.prog 84 { kd := 1, size := 1, zero := .pointer none, pt := true } := TFact.ptr1 (e := 87) (by kernel_rfl) (by kernel_rfl)
theorem ti85 : TFact Try.prog 85 { kd := 1, size := 1, zero := .nilFunc } := TFact.cell (fun w => by kernel_rfl) (by kernel_rfl) rfl
theorem ti86 : TFact Try.prog 86 { kd := 4, size := 2, zero := .agg #[.slice none 0 0, (.nilFunc)], offs := [(0, 1), (1, 1)] } := TFact.struct1 (fs := _) (z := #[.slice none 0 0, (.nilFunc)]) (offs := [(0, 1), (1, 1)]) rfl (by kernel_rfl) (by kernel_rfl) (by rfl) (by rfl) (by decide) (by decide)
theorem ti87 : TFact Try.prog 87 { kd := 4, size := 2, zero := .agg #[.slice none 0 0, (.nilFunc)], offs := [(0, 1), (1, 1)] } := TFact.struct1 (fs := _) (z := #[.slice none 0 0, (.nilFunc)]) (offs := [(0, 1), (1, 1)]) rfl (by kernel_rfl) (by kernel_rfl) (by rfl) (by rfl) (by decide) (by decide)
theorem ti88 : TFact Try.prog 88 { kd := 1, size := 1, zero := .nilFunc } := TFact.cell (fun w => by kernel_rfl) (by kernel_rfl) rfl
theorem ti90 : TFact Try.prog 90 { kd := 1, size := 1, zero := .nilFunc } := TFact.cell (fun w => by kernel_rfl) (by kernel_rfl) rfl
theorem ti91 : TFact Try.prog 91 { kd := 1, size := 1, zero := .nilFunc } := TFact.cell (fun w => by kernel_rfl) (by kernel_rfl) rfl
theorem ti92 : TFact Try.prog 92 { kd := 1, size := 1, zero := .nilFunc } := TFact.cell (fun w => by kernel_rfl) (by kernel_rfl) rfl
theorem ti93 : TFact Try.prog 93 { kd := 1, size := 1, zero := .nilFunc } := TFact.cell (fun w => by kernel_rfl) (by kernel_rfl) rfl
theorem ti94 : TFact Try.prog 94 { kd := 1, size := 1, zero := .nilFunc } := TFact.cell (fun w => by kernel_rfl) (by kernel_rfl) rfl
theorem ti95 : TFact Try.prog 95 { kd := 1, size := 1, zero := .nilFunc } := TFact.cell (fun w => by kernel_rfl) (by kernel_rfl) rfl
theorem ti96 : TFact Try.prog 96 { kd := 1, size := 1, zero := .nilFunc } := TFact.cell (fun w => by kernel_rfl) (by kernel_rfl) rfl
theorem ti97 : TFact Try.prog 97 { kd := 1, size := 1, zero := .int .u64 0, ik := some .u64 } := TFact.int1 (by kernel_rfl) (by kernel_rfl)
theorem ti98 : TFact Try.prog 98 { kd := 1, size := 1, zero := .nilFunc } := TFact.cell (fun w => by kernel_rfl) (by kernel_rfl) rfl
theorem ti99 : TFact Try.prog 99 { kd := 1, size := 1, zero := .nilFunc } := TFact.cell (fun w => by kernel_rfl) (by kernel_rfl) rfl
theorem ti100 : TFact Try.prog 100 { kd := 1, size := 1, zero := .nilFunc } := TFact.cell (fun w => by kernel_rfl) (by kernel_rfl) rfl
theorem ti101 : TFact Try.prog 101 { kd := 2, size := 1, zero := .slice none 0 0, elem := 1, eb := 24, ez := .slice none 0 0 } := TFact.slice1 (e := 22) (ze := .slice none 0 0) (by kernel_rfl) (by kernel_rfl) (by kernel_rfl) (by rfl) (by rfl) (by decide)
theorem ti102 : TFact Try.prog 102 { kd := 1, size := 1, zero := .nilFunc } := TFact.cell (fun w => by kernel_rfl) (by kernel_rfl) rfl
theorem ti103 : TFact Try.prog 103 { kd := 1, size := 1, zero := .int .i64 0, ik := some .i64 } := TFact.int1 (by kernel_rfl) (by kernel_rfl)
theorem ti105 : TFact Try.prog 105 { kd := 1, size := 1, zero := .nilFunc } := TFact.cell (fun w => by kernel_rfl) (by kernel_rfl) rfl
theorem ti106 : TFact Try.prog 106 { kd := 1, size := 1, zero := .nilFunc } := TFact.cell (fun w => by kernel_rfl) (by kernel_rfl) rfl
theorem ti107 : TFact Try.prog 107 { kd := 1, size := 1, zero := .nilFunc } := TFact.cell (fun w => by kernel_rfl) (by kernel_rfl) rfl
theorem ti108 : TFact Try.prog 108 { kd := 1, size := 1, zero := .nilFunc } := TFact.cell (fun w => by kernel_rfl) (by kernel_rfl) rfl
theorem ti110 : TFact Try.prog 110 { kd := 1, size := 1, zero := .nilFunc } := TFact.cell (fun w => by kernel_rfl) (by kernel_rfl) rfl
theorem ti111 : TFact Try.prog 111 { kd := 1, size := 1, zero := .nilFunc } := TFact.cell (fun w => by kernel_rfl) (by kernel_rfl) rfl
theorem ti112 : TFact Try.prog 112 { kd := 1, size := 1, zero := .int .u32 0, ik := some .u32 } := TFact.int1 (by kernel_rfl) (by kernel_rfl)
theorem ti113 : TFact Try.prog 113 { kd := 1, size := 1, zero := .nilFunc } := TFact.cell (fun w => by kernel_rfl) (by kernel_rfl) rfl
theorem ti114 : TFact Try.prog 114 { kd := 1, size := 1, zero := .int .u64 0, ik := some .u64 } := TFact.int1 (by kernel_rfl) (by kernel_rfl)
theorem ti115 : TFact Try.prog 115 { kd := 1, size := 1, zero := .nilFunc } := TFact.cell (fun w => by kernel_rfl) (by kernel_rfl) rfl
theorem ti116 : TFact Try.prog 116 { kd := 1, size := 1, zero := .nilFunc } := TFact.cell (fun w => by kernel_rfl) (by kernel_rfl) rfl
theorem ti117 : TFact Try.prog 117 { kd := 1, size := 1, zero := .int .u64 0, ik := some .u64 } := TFact.int1 (by kernel_rfl) (by kernel_rfl)
theorem ti118 : TFact Try.prog 118 { kd := 1, size := 1, zero := .nilFunc } := TFact.cell (fun w => by kernel_rfl) (by kernel_rfl) rfl
theorem ti119 : TFact Try.prog 119 { kd := 1, size := 1, zero := .nilFunc } := TFact.cell (fun w => by kernel_rfl) (by kernel_rfl) rfl
theorem ti120 : TFact Try.prog 120 { kd := 1, size := 1, zero := .nilFunc } := TFact.cell (fun w => by kernel_rfl) (by kernel_rfl) rfl
theorem ti121 : TFact Try.prog 121 { kd := 1, size := 1, zero := .pointer none, pt := true } := TFact.ptr1 (e := 3) (by kernel_rfl) (by kernel_rfl)
theorem ti122 : TFact Try.prog 122 { kd := 1, size := 1, zero := .nilFunc } := TFact.cell (fun w => by kernel_rfl) (by kernel_rfl) rfl
theorem ti123 : TFact Try.prog 123 { kd := 1, size := 1, zero := .pointer none, pt := true } := TFact.ptr1 (e := 117) (by kernel_rfl) (by kernel_rfl)
theorem ti125 : TFact Try.prog 125 { kd := 1, size := 1, zero := .nilFunc } := TFact.cell (fun w => by kernel_rfl) (by kernel_rfl) rfl
theorem ti126 : TFact Try.prog 126 { kd := 1, size := 1, zero := .nilFunc } := TFact.cell (fun w => by kernel_rfl) (by kernel_rfl) rfl
theorem ti127 : TFact Try.prog 127 { kd := 1, size := 1, zero := .nilFunc } := TFact.cell (fun w => by kernel_rfl) (by kernel_rfl) rfl
theorem ti128 : TFact Try.prog 128 { kd := 4, size := 4, zero := .agg #[(.pointer none), (.pointer none), (.pointer none), (.string ⟨⟨[]⟩⟩)], offs := [(0, 1), (1, 1), (2, 1), (3, 1)] } := TFact.struct1 (fs := _) (z := #[(.pointer none), (.pointer none), (.pointer none), (.string ⟨⟨[]⟩⟩)]) (offs := [(0, 1), (1, 1), (2, 1), (3, 1)]) rfl (by kernel_rfl) (by kernel_rfl) (by rfl) (by rfl) (by decide) (by decide)
theorem ti129 : TFact Try.prog 129 { kd := 4, size := 4, zero := .agg #[(.pointer none), (.pointer none), (.pointer none), (.string ⟨⟨[]⟩⟩)], offs := [(0, 1), (1, 1), (2, 1), (3, 1)] } := TFact.struct1 (fs := _) (z := #[(.pointer none), (.pointer none), (.pointer none), (.string ⟨⟨[]⟩⟩)]) (offs := [(0, 1), (1, 1), (2, 1), (3, 1)]) rfl (by kernel_rfl) (by kernel_rfl) (by rfl) (by rfl) (by decide) (by decide)
theorem ti133 : TFact Try.prog 133 { kd := 1, size := 1, zero := .nilFunc } := TFact.cell (fun w => by kernel_rfl) (by kernel_rfl) rfl
theorem ti134 : TFact Try.prog 134 { kd := 1, size := 1, zero := .int .u8 0, ik := some .u8 } := TFact.int1 (by kernel_rfl) (by kernel_rfl)
theorem ti135 : TFact Try.prog 135 { kd := 1, size := 1, zero := .int .u8 0, ik := some .u8 } := TFact.int1 (by kernel_rfl) (by kernel_rfl)
theorem ti136 : TFact Try.prog 136 { kd := 1, size := 1, zero := .nilFunc } := TFact.cell (fun w => by kernel_rfl) (by kernel_rfl) rfl
theorem ti137 : TFact Try.prog 137 { kd := 1, size := 1, zero := .pointer none, pt := true } := TFact.ptr1 (e := 5) (by kernel_rfl) (by kernel_rfl)
theorem ti138 : TFact Try.prog 138 { kd := 1, size := 1, zero := .int .i32 0, ik := some .i32 } := TFact.int1 (by kernel_rfl) (by kernel_rfl)
theorem ti139 : TFact Try.prog 139 { kd := 1, size := 1, zero := .int .i32 0, ik := some .i32 } := TFact.int1 (by kernel_rfl) (by kernel_rfl)
theorem ti140 : TFact Try.prog 140 { kd := 4, size := 11, zero := .agg #[(.int .u64 (0)), (.int .u64 (0)), (.int .u32 (0)), (.int .u8 (0)), (.int .u8 (0)), (.int .u8 (0)), (.int .u8 (0)), (.nilFunc), (.pointer none), (.int .i32 (0)), (.int .i32 (0))], offs := [(0, 1), (1, 1), (2, 1), (3, 1), (4, 1), (5, 1), (6, 1), (7, 1), (8, 1), (9, 1), (10, 1)] } := TFact.struct1 (fs := _) (z := #[(.int .u64 (0)), (.int .u64 (0)), (.int .u32 (0)), (.int .u8 (0)), (.int .u8 (0)), (.int .u8 (0)), (.int .u8 (0)), (.nilFunc), (.pointer none), (.int .i32 (0)), (.int .i32 (0))]) (offs := [(0, 1), (1, 1), (2, 1), (3, 1), (4, 1), (5, 1), (6, 1), (7, 1), (8, 1), (9, 1), (10, 1)]) rfl (by kernel_rfl) (by kernel_rfl) (by rfl) (by rfl) (by decide) (by decide)
theorem ti141 : TFact Try.prog 141 { kd := 4, size := 11, zero := .agg #[(.int .u64 (0)), (.int .u64 (0)), (.int .u32 (0)), (.int .u8 (0)), (.int .u8 (0)), (.int .u8 (0)), (.int .u8 (0)), (.nilFunc), (.pointer none), (.int .i32 (0)), (.int .i32 (0))], offs := [(0, 1), (1, 1), (2, 1), (3, 1), (4, 1), (5, 1), (6, 1), (7, 1), (8, 1), (9, 1), (10, 1)] } := TFact.struct1 (fs := _) (z := #[(.int .u64 (0)), (.int .u64 (0)), (.int .u32 (0)), (.int .u8 (0)), (.int .u8 (0)), (.int .u8 (0)), (.int .u8 (0)), (.nilFunc), (.pointer none), (.int .i32 (0)), (.int .i32 (0))]) (offs := [(0, 1), (1, 1), (2, 1), (3, 1), (4, 1), (5, 1), (6, 1), (7, 1), (8, 1), (9, 1), (10, 1)]) rfl (by kernel_rfl) (by kernel_rfl) (by rfl) (by rfl) (by decide) (by decide)

def TI : Nat → TD
  | 1 => { kd := 1, size := 1, zero := .nilFunc }
  | 2 => { kd := 1, size := 1, zero := .int .i64 0, ik := some .i64 }
  | 3 => { kd := 1, size := 1, zero := .int .i64 0, ik := some .i64 }
  | 4 => { kd := 1, size := 1, zero := .bool false, bl := true }
  | 5 => { kd := 1, size := 1, zero := .int .u8 0, ik := some .u8 }
  | 6 => { kd := 1, size := 1, zero := .int .u8 0, ik := some .u8 }
  | 7 => { kd := 4, size := 4, zero := .agg #[(.int .i64 (0)), (.int .i64 (0)), (.bool false), (.int .u8 (0))], offs := [(0, 1), (1, 1), (2, 1), (3, 1)] }
  | 8 => { kd := 4, size := 4, zero := .agg #[(.int .i64 (0)), (.int .i64 (0)), (.bool false), (.int .u8 (0))], offs := [(0, 1), (1, 1), (2, 1), (3, 1)] }
  | 9 => { kd := 1, size := 1, zero := .string ⟨⟨[]⟩⟩, st := true }
  | 10 => { kd := 1, size := 1, zero := .string ⟨⟨[]⟩⟩, st := true }
  | 11 => { kd := 1, size := 1, zero := .string ⟨⟨[]⟩⟩, st := true }
  | 12 => { kd := 1, size := 1, zero := .int .u64 0, ik := some .u64 }
  | 13 => { kd := 4, size := 2, zero := .agg #[(.string ⟨⟨[]⟩⟩), (.int .u64 (0))], offs := [(0, 1), (1, 1)] }
  | 14 => { kd := 4, size := 2, zero := .agg #[(.string ⟨⟨[]⟩⟩), (.int .u64 (0))], offs := [(0, 1), (1, 1)] }
  | 15 => { kd := 1, size := 1, zero := .pointer none, pt := true }
  | 16 => { kd := 1, size := 1, zero := .pointer none, pt := true }
  | 17 => { kd := 1, size := 1, zero := .pointer none, pt := true }
  | 18 => { kd := 4, size := 1, zero := .agg #[(.pointer none)], offs := [(0, 1)] }
  | 19 => { kd := 4, size := 1, zero := .agg #[(.pointer none)], offs := [(0, 1)] }
  | 20 => { kd := 1, size := 1, zero := .nilIface }
  | 21 => { kd := 1, size := 1, zero := .int .i32 0, ik := some .i32 }
  | 22 => { kd := 2, size := 1, zero := .slice none 0 0, elem := 2, eb := 16, ez := .agg #[(.int .i64 (0)), (.int .i64 (0))] }
  | 23 => { kd := 2, size := 1, zero := .slice none 0 0, elem := 1, eb := 8, ez := .int .i64 (0) }
  | 24 => { kd := 1, size := 1, zero := .nilFunc }
  | 25 => { kd := 2, size := 1, zero := .slice none 0 0, elem := 2, eb := 16, ez := .agg #[(.int .i64 (0)), (.int .i64 (0))] }
  | 26 => { kd := 1, size := 1, zero := .nilFunc }
  | 27 => { kd := 1, size := 1, zero := .int .i64 0, ik := some .i64 }
  | 29 => { kd := 1, size := 1, zero := .nilFunc }
  | 30 => { kd := 1, size := 1, zero := .nilFunc }
  | 31 => { kd := 1, size := 1, zero := .nilFunc }
  | 32 => { kd := 1, size := 1, zero := .nilFunc }
  | 34 => { kd := 1, size := 1, zero := .nilFunc }
  | 35 => { kd := 1, size := 1, zero := .nilFunc }
  | 36 => { kd := 1, size := 1, zero := .nilFunc }
  | 37 => { kd := 1, size := 1, zero := .nilFunc }
  | 38 => { kd := 1, size := 1, zero := .nilFunc }
  | 39 => { kd := 1, size := 1, zero := .nilFunc }
  | 40 => { kd := 1, size := 1, zero := .nilFunc }
  | 41 => { kd := 1, size := 1, zero := .nilFunc }
  | 42 => { kd := 1, size := 1, zero := .nilFunc }
  | 44 => { kd := 1, size := 1, zero := .nilFunc }
  | 45 => { kd := 1, size := 1, zero := .nilFunc }
  | 46 => { kd := 1, size := 1, zero := .nilFunc }
  | 47 => { kd := 1, size := 1, zero := .nilFunc }
  | 48 => { kd := 1, size := 1, zero := .nilFunc }
  | 49 => { kd := 2, size := 1, zero := .slice none 0 0, elem := 2, eb := 2, ez := .agg #[(.int .u8 (0)), (.int .u8 (0))] }
  | 50 => { kd := 2, size := 1, zero := .slice none 0 0, elem := 2, eb := 2, ez := .agg #[(.int .u8 (0)), (.int .u8 (0))] }
  | 51 => { kd := 1, size := 1, zero := .nilFunc }
  | 53 => { kd := 1, size := 1, zero := .nilFunc }
  | 54 => { kd := 1, size := 1, zero := .map none, mp := some (3, 4), mkv := some (.int .i64, .bool) }
  | 55 => { kd := 4, size := 2, zero := .agg #[(.int .i64 (0)), (.int .i64 (0))], offs := [(0, 1), (1, 1)], eqd := some (.pair (.int .i64) (.pair (.int .i64) (.unit))) }
  | 56 => { kd := 4, size := 2, zero := .agg #[(.int .i64 (0)), (.int .i64 (0))], offs := [(0, 1), (1, 1)], eqd := some (.pair (.int .i64) (.pair (.int .i64) (.unit))) }
  | 57 => { kd := 1, size := 1, zero := .nilFunc }
  | 58 => { kd := 1, size := 1, zero := .nilFunc }
  | 59 => { kd := 1, size := 1, zero := .nilFunc }
  | 60 => { kd := 1, size := 1, zero := .nilFunc }
  | 61 => { kd := 1, size := 1, zero := .nilFunc }
  | 62 => { kd := 3, size := 6, zero := .agg #[(.int .u8 (0)), (.int .u8 (0)), (.int .u8 (0)), (.int .u8 (0)), (.int .u8 (0)), (.int .u8 (0))], elem := 1, eb := 1, ez := .int .u8 (0), len := 6, one1 := true, eqd := some (.arr 6 (.int .u8)) }
  | 63 => { kd := 1, size := 1, zero := .nilFunc }
  | 64 => { kd := 1, size := 1, zero := .nilFunc }
  | 65 => { kd := 4, size := 2, zero := .agg #[(.int .i64 (0)), (.int .i64 (0))], offs := [(0, 1), (1, 1)], eqd := some (.pair (.int .i64) (.pair (.int .i64) (.unit))) }
  | 66 => { kd := 1, size := 1, zero := .nilFunc }
  | 67 => { kd := 1, size := 1, zero := .nilFunc }
  | 68 => { kd := 1, size := 1, zero := .nilFunc }
  | 69 => { kd := 1, size := 1, zero := .nilFunc }
  | 70 => { kd := 1, size := 1, zero := .nilFunc }
  | 71 => { kd := 1, size := 1, zero := .nilFunc }
  | 72 => { kd := 1, size := 1, zero := .nilFunc }
  | 73 => { kd := 1, size := 1, zero := .nilFunc }
  | 74 => { kd := 1, size := 1, zero := .nilFunc }
  | 75 => { kd := 1, size := 1, zero := .nilFunc }
  | 76 => { kd := 1, size := 1, zero := .nilFunc }
  | 77 => { kd := 1, size := 1, zero := .nilFunc }
  | 78 => { kd := 1, size := 1, zero := .nilFunc }
  | 79 => { kd := 3, size := 31, zero := .agg #[(.int .i64 (0)), (.int .i64 (0)), (.int .i64 (0)), (.int .i64 (0)), (.int .i64 (0)), (.int .i64 (0)), (.int .i64 (0)), (.int .i64 (0)), (.int .i64 (0)), (.int .i64 (0)), (.int .i64 (0)), (.int .i64 (0)), (.int .i64 (0)), (.int .i64 (0)), (.int .i64 (0)), (.int .i64 (0)), (.int .i64 (0)), (.int .i64 (0)), (.int .i64 (0)), (.int .i64 (0)), (.int .i64 (0)), (.int .i64 (0)), (.int .i64 (0)), (.int .i64 (0)), (.int .i64 (0)), (.int .i64 (0)), (.int .i64 (0)), (.int .i64 (0)), (.int .i64 (0)), (.int .i64 (0)), (.int .i64 (0))], elem := 1, eb := 8, ez := .int .i64 (0), len := 31, one1 := true, eqd := some (.arr 31 (.int .i64)) }
  | 80 => { kd := 3, size := 2, zero := .agg #[(.int .u8 (0)), (.int .u8 (0))], elem := 1, eb := 1, ez := .int .u8 (0), len := 2, one1 := true, eqd := some (.arr 2 (.int .u8)) }
  | 81 => { kd := 1, size := 1, zero := .nilFunc }
  | 82 => { kd := 1, size := 1, zero := .nilFunc }
  | 83 => { kd := 1, size := 1, zero := .nilFunc }
  | 84 => { kd := 1, size := 1, zero := .pointer none, pt := true }
  | 85 => { kd := 1, size := 1, zero := .nilFunc }
  | 86 => { kd := 4, size := 2, zero := .agg #[.slice none 0 0, (.nilFunc)], offs := [(0, 1), (1, 1)] }
  | 87 => { kd := 4, size := 2, zero := .agg #[.slice none 0 0, (.nilFunc)], offs := [(0, 1), (1, 1)] }
  | 88 => { kd := 1, size := 1, zero := .nilFunc }
  | 90 => { kd := 1, size := 1, zero := .nilFunc }
  | 91 => { kd := 1, size := 1, zero := .nilFunc }
  | 92 => { kd := 1, size := 1, zero := .nilFunc }
  | 93 => { kd := 1, size := 1, zero := .nilFunc }
  | 94 => { kd := 1, size := 1, zero := .nilFunc }
  | 95 => { kd := 1, size := 1, zero := .nilFunc }
  | 96 => { kd := 1, size := 1, zero := .nilFunc }
  | 97 => { kd := 1, size := 1, zero := .int .u64 0, ik := some .u64 }
  | 98 => { kd := 1, size := 1, zero := .nilFunc }
  | 99 => { kd := 1, size := 1, zero := .nilFunc }
  | 100 => { kd := 1, size := 1, zero := .nilFunc }
  | 101 => { kd := 2, size := 1, zero := .slice none 0 0, elem := 1, eb := 24, ez := .slice none 0 0 }
  | 102 => { kd := 1, size := 1, zero := .nilFunc }
  | 103 => { kd := 1, size := 1, zero := .int .i64 0, ik := some .i64 }
  | 105 => { kd := 1, size := 1, zero := .nilFunc }
  | 106 => { kd := 1, size := 1, zero := .nilFunc }
  | 107 => { kd := 1, size := 1, zero := .nilFunc }
  | 108 => { kd := 1, size := 1, zero := .nilFunc }
  | 110 => { kd := 1, size := 1, zero := .nilFunc }
  | 111 => { kd := 1, size := 1, zero := .nilFunc }
  | 112 => { kd := 1, size := 1, zero := .int .u32 0, ik := some .u32 }
  | 113 => { kd := 1, size := 1, zero := .nilFunc }
  | 114 => { kd := 1, size := 1, zero := .int .u64 0, ik := some .u64 }
  | 115 => { kd := 1, size := 1, zero := .nilFunc }
  | 116 => { kd := 1, size := 1, zero := .nilFunc }
  | 117 => { kd := 1, size := 1, zero := .int .u64 0, ik := some .u64 }
  | 118 => { kd := 1, size := 1, zero := .nilFunc }
  | 119 => { kd := 1, size := 1, zero := .nilFunc }
  | 120 => { kd := 1, size := 1, zero := .nilFunc }
  | 121 => { kd := 1, size := 1, zero := .pointer none, pt := true }
  | 122 => { kd := 1, size := 1, zero := .nilFunc }
  | 123 => { kd := 1, size := 1, zero := .pointer none, pt := true }
  | 125 => { kd := 1, size := 1, zero := .nilFunc }
  | 126 => { kd := 1, size := 1, zero := .nilFunc }
  | 127 => { kd := 1, size := 1, zero := .nilFunc }
  | 128 => { kd := 4, size := 4, zero := .agg #[(.pointer none), (.pointer none), (.pointer none), (.string ⟨⟨[]⟩⟩)], offs := [(0, 1), (1, 1), (2, 1), (3, 1)] }
  | 129 => { kd := 4, size := 4, zero := .agg #[(.pointer none), (.pointer none), (.pointer none), (.string ⟨⟨[]⟩⟩)], offs := [(0, 1), (1, 1), (2, 1), (3, 1)] }
  | 133 => { kd := 1, size := 1, zero := .nilFunc }
  | 134 => { kd := 1, size := 1, zero := .int .u8 0, ik := some .u8 }
  | 135 => { kd := 1, size := 1, zero := .int .u8 0, ik := some .u8 }
  | 136 => { kd := 1, size := 1, zero := .nilFunc }
  | 137 => { kd := 1, size := 1, zero := .pointer none, pt := true }
  | 138 => { kd := 1, size := 1, zero := .int .i32 0, ik := some .i32 }
  | 139 => { kd := 1, size := 1, zero := .int .i32 0, ik := some .i32 }
  | 140 => { kd := 4, size := 11, zero := .agg #[(.int .u64 (0)), (.int .u64 (0)), (.int .u32 (0)), (.int .u8 (0)), (.int .u8 (0)), (.int .u8 (0)), (.int .u8 (0)), (.nilFunc), (.pointer none), (.int .i32 (0)), (.int .i32 (0))], offs := [(0, 1), (1, 1), (2, 1), (3, 1), (4, 1), (5, 1), (6, 1), (7, 1), (8, 1), (9, 1), (10, 1)] }
  | 141 => { kd := 4, size := 11, zero := .agg #[(.int .u64 (0)), (.int .u64 (0)), (.int .u32 (0)), (.int .u8 (0)), (.int .u8 (0)), (.int .u8 (0)), (.int .u8 (0)), (.nilFunc), (.pointer none), (.int .i32 (0)), (.int .i32 (0))], offs := [(0, 1), (1, 1), (2, 1), (3, 1), (4, 1), (5, 1), (6, 1), (7, 1), (8, 1), (9, 1), (10, 1)] }
  | _ => {}

theorem tok : TOK Try.prog TI := fun T => by
  unfold TI
  split
  · exact ti1
  · exact ti2
  · exact ti3
  · exact ti4
  · exact ti5
  · exact ti6
  · exact ti7
  · exact ti8
  · exact ti9
  · exact ti10
  · exact ti11
  · exact ti12
  · exact ti13
  · exact ti14
  · exact ti15
  · exact ti16
  · exact ti17
  · exact ti18
  · exact ti19
  · exact ti20
  · exact ti21
  · exact ti22
  · exact ti23
  · exact ti24
  · exact ti25
  · exact ti26
  · exact ti27
  · exact ti29
  · exact ti30
  · exact ti31
  · exact ti32
  · exact ti34
  · exact ti35
  · exact ti36
  · exact ti37
  · exact ti38
  · exact ti39
  · exact ti40
  · exact ti41
  · exact ti42
  · exact ti44
  · exact ti45
  · exact ti46
  · exact ti47
  · exact ti48
  · exact ti49
  · exact ti50
  · exact ti51
  · exact ti53
  · exact ti54
  · exact ti55
  · exact ti56
  · exact ti57
  · exact ti58
  · exact ti59
  · exact ti60
  · exact ti61
  · exact ti62
  · exact ti63
  · exact ti64
  · exact ti65
  · exact ti66
  · exact ti67
  · exact ti68
  · exact ti69
  · exact ti70
  · exact ti71
  · exact ti72
  · exact ti73
  · exact ti74
  · exact ti75
  · exact ti76
  · exact ti77
  · exact ti78
  · exact ti79
  · exact ti80
  · exact ti81
  · exact ti82
  · exact ti83
  · exact ti84
  · exact ti85
  · exact ti86
  · exact ti87
  · exact ti88
  · exact ti90
  · exact ti91
  · exact ti92
  · exact ti93
  · exact ti94
  · exact ti95
  · exact ti96
  · exact ti97
  · exact ti98
  · exact ti99
  · exact ti100
  · exact ti101
  · exact ti102
  · exact ti103
  · exact ti105
  · exact ti106
  · exact ti107
  · exact ti108
  · exact ti110
  · exact ti111
  · exact ti112
  · exact ti113
  · exact ti114
  · exact ti115
  · exact ti116
  · exact ti117
  · exact ti118
  · exact ti119
  · exact ti120
  · exact ti121
  · exact ti122
  · exact ti123
  · exact ti125
  · exact ti126
  · exact ti127
  · exact ti128
  · exact ti129
  · exact ti133
  · exact ti134
  · exact ti135
  · exact ti136
  · exact ti137
  · exact ti138
  · exact ti139
  · exact ti140
  · exact ti141
  · exact TFact.nothing

end Go.Proofs.Ytbblnbolabpfmaa
