/-
  What the heap-free logic is told of this seat's types; each fact is asked of the program by the kernel. Written by a program (gen_ti.py).
-/
import Derived.Test.YtbjfbbfglkmadaaDoorQU
import Derived.Test.YtbjfbbfglkmadaaDoorRows
namespace Go.Proofs.YtbjfbbfglkmadaaDoor
set_option maxRecDepth 100000

theorem ti1 : TFact Tryd.prog 1 { kd := 1, size := 1, zero := .nilFunc } := TFact.cell (fun w => by kernel_rfl) (by kernel_rfl) rfl
theorem ti2 : TFact Tryd.prog 2 { kd := 1, size := 1, zero := .int .i64 0, ik := some .i64 } := TFact.int1 (by kernel_rfl) (by kernel_rfl)
theorem ti3 : TFact Tryd.prog 3 { kd := 1, size := 1, zero := .int .i64 0, ik := some .i64 } := TFact.int1 (by kernel_rfl) (by kernel_rfl)
theorem ti4 : TFact Tryd.prog 4 { kd := 1, size := 1, zero := .bool false, bl := true } := TFact.bool1 (by kernel_rfl) (by kernel_rfl)
theorem ti5 : TFact Tryd.prog 5 { kd := 1, size := 1, zero := .int .u8 0, ik := some .u8 } := TFact.int1 (by kernel_rfl) (by kernel_rfl)
theorem ti6 : TFact Tryd.prog 6 { kd := 1, size := 1, zero := .int .u8 0, ik := some .u8 } := TFact.int1 (by kernel_rfl) (by kernel_rfl)
theorem ti7 : TFact Tryd.prog 7 { kd := 4, size := 4, zero := .agg #[(.int .i64 (0)), (.int .i64 (0)), (.bool false), (.int .u8 (0))], offs := [(0, 1), (1, 1), (2, 1), (3, 1)] } := TFact.struct1 (fs := _) (z := #[(.int .i64 (0)), (.int .i64 (0)), (.bool false), (.int .u8 (0))]) (offs := [(0, 1), (1, 1), (2, 1), (3, 1)]) rfl (by kernel_rfl) (by kernel_rfl) (by rfl) (by rfl) (by decide) (by decide)
theorem ti8 : TFact Tryd.prog 8 { kd := 4, size := 4, zero := .agg #[(.int .i64 (0)), (.int .i64 (0)), (.bool false), (.int .u8 (0))], offs := [(0, 1), (1, 1), (2, 1), (3, 1)] } := TFact.struct1 (fs := _) (z := #[(.int .i64 (0)), (.int .i64 (0)), (.bool false), (.int .u8 (0))]) (offs := [(0, 1), (1, 1), (2, 1), (3, 1)]) rfl (by kernel_rfl) (by kernel_rfl) (by rfl) (by rfl) (by decide) (by decide)
theorem ti9 : TFact Tryd.prog 9 { kd := 1, size := 1, zero := .string ⟨⟨[]⟩⟩, st := true } := TFact.str1 (by kernel_rfl) (by kernel_rfl)
theorem ti10 : TFact Tryd.prog 10 { kd := 1, size := 1, zero := .string ⟨⟨[]⟩⟩, st := true } := TFact.str1 (by kernel_rfl) (by kernel_rfl)
theorem ti11 : TFact Tryd.prog 11 { kd := 1, size := 1, zero := .string ⟨⟨[]⟩⟩, st := true } := TFact.str1 (by kernel_rfl) (by kernel_rfl)
theorem ti12 : TFact Tryd.prog 12 { kd := 1, size := 1, zero := .int .u64 0, ik := some .u64 } := TFact.int1 (by kernel_rfl) (by kernel_rfl)
theorem ti13 : TFact Tryd.prog 13 { kd := 4, size := 2, zero := .agg #[(.string ⟨⟨[]⟩⟩), (.int .u64 (0))], offs := [(0, 1), (1, 1)] } := TFact.struct1 (fs := _) (z := #[(.string ⟨⟨[]⟩⟩), (.int .u64 (0))]) (offs := [(0, 1), (1, 1)]) rfl (by kernel_rfl) (by kernel_rfl) (by rfl) (by rfl) (by decide) (by decide)
theorem ti14 : TFact Tryd.prog 14 { kd := 4, size := 2, zero := .agg #[(.string ⟨⟨[]⟩⟩), (.int .u64 (0))], offs := [(0, 1), (1, 1)] } := TFact.struct1 (fs := _) (z := #[(.string ⟨⟨[]⟩⟩), (.int .u64 (0))]) (offs := [(0, 1), (1, 1)]) rfl (by kernel_rfl) (by kernel_rfl) (by rfl) (by rfl) (by decide) (by decide)
theorem ti15 : TFact Tryd.prog 15 { kd := 1, size := 1, zero := .pointer none, pt := true } := TFact.ptr1 (e := 141) (by kernel_rfl) (by kernel_rfl)
theorem ti16 : TFact Tryd.prog 16 { kd := 1, size := 1, zero := .pointer none, pt := true } := TFact.ptr1 (e := 144) (by kernel_rfl) (by kernel_rfl)
theorem ti17 : TFact Tryd.prog 17 { kd := 1, size := 1, zero := .pointer none, pt := true } := TFact.ptr1 (e := 152) (by kernel_rfl) (by kernel_rfl)
theorem ti18 : TFact Tryd.prog 18 { kd := 4, size := 1, zero := .agg #[(.pointer none)], offs := [(0, 1)] } := TFact.struct1 (fs := _) (z := #[(.pointer none)]) (offs := [(0, 1)]) rfl (by kernel_rfl) (by kernel_rfl) (by rfl) (by rfl) (by decide) (by decide)
theorem ti19 : TFact Tryd.prog 19 { kd := 4, size := 1, zero := .agg #[(.pointer none)], offs := [(0, 1)] } := TFact.struct1 (fs := _) (z := #[(.pointer none)]) (offs := [(0, 1)]) rfl (by kernel_rfl) (by kernel_rfl) (by rfl) (by rfl) (by decide) (by decide)
theorem ti20 : TFact Tryd.prog 20 { kd := 1, size := 1, zero := .nilIface } := TFact.cell (fun w => by kernel_rfl) (by kernel_rfl) rfl
theorem ti21 : TFact Tryd.prog 21 { kd := 1, size := 1, zero := .int .i32 0, ik := some .i32 } := TFact.int1 (by kernel_rfl) (by kernel_rfl)
theorem ti22 : TFact Tryd.prog 22 { kd := 2, size := 1, zero := .slice none 0 0, elem := 1, eb := 24, ez := .slice none 0 0 } := TFact.slice1 (e := 25) (ze := .slice none 0 0) (by kernel_rfl) (by kernel_rfl) (by kernel_rfl) (by rfl) (by rfl) (by decide)
theorem ti23 : TFact Tryd.prog 23 { kd := 4, size := 2, zero := .agg #[(.int .i64 (0)), .slice none 0 0], offs := [(0, 1), (1, 1)] } := TFact.struct1 (fs := _) (z := #[(.int .i64 (0)), .slice none 0 0]) (offs := [(0, 1), (1, 1)]) rfl (by kernel_rfl) (by kernel_rfl) (by rfl) (by rfl) (by decide) (by decide)
theorem ti24 : TFact Tryd.prog 24 { kd := 4, size := 2, zero := .agg #[(.int .i64 (0)), .slice none 0 0], offs := [(0, 1), (1, 1)] } := TFact.struct1 (fs := _) (z := #[(.int .i64 (0)), .slice none 0 0]) (offs := [(0, 1), (1, 1)]) rfl (by kernel_rfl) (by kernel_rfl) (by rfl) (by rfl) (by decide) (by decide)
theorem ti25 : TFact Tryd.prog 25 { kd := 2, size := 1, zero := .slice none 0 0, elem := 1, eb := 8, ez := .int .i64 (0) } := TFact.slice1 (e := 3) (ze := .int .i64 (0)) (by kernel_rfl) (by kernel_rfl) (by kernel_rfl) (by rfl) (by rfl) (by decide)
theorem ti26 : TFact Tryd.prog 26 { kd := 1, size := 1, zero := .nilFunc } := TFact.cell (fun w => by kernel_rfl) (by kernel_rfl) rfl
theorem ti27 : TFact Tryd.prog 27 { kd := 1, size := 1, zero := .nilFunc } := TFact.cell (fun w => by kernel_rfl) (by kernel_rfl) rfl
theorem ti28 : TFact Tryd.prog 28 { kd := 4, size := 2, zero := .agg #[(.int .i64 (0)), .slice none 0 0], offs := [(0, 1), (1, 1)] } := TFact.struct1 (fs := _) (z := #[(.int .i64 (0)), .slice none 0 0]) (offs := [(0, 1), (1, 1)]) rfl (by kernel_rfl) (by kernel_rfl) (by rfl) (by rfl) (by decide) (by decide)
theorem ti29 : TFact Tryd.prog 29 { kd := 1, size := 1, zero := .int .i64 0, ik := some .i64 } := TFact.int1 (by kernel_rfl) (by kernel_rfl)
theorem ti31 : TFact Tryd.prog 31 { kd := 1, size := 1, zero := .nilFunc } := TFact.cell (fun w => by kernel_rfl) (by kernel_rfl) rfl
theorem ti32 : TFact Tryd.prog 32 { kd := 1, size := 1, zero := .nilFunc } := TFact.cell (fun w => by kernel_rfl) (by kernel_rfl) rfl
theorem ti33 : TFact Tryd.prog 33 { kd := 1, size := 1, zero := .nilFunc } := TFact.cell (fun w => by kernel_rfl) (by kernel_rfl) rfl
theorem ti34 : TFact Tryd.prog 34 { kd := 1, size := 1, zero := .nilFunc } := TFact.cell (fun w => by kernel_rfl) (by kernel_rfl) rfl
theorem ti35 : TFact Tryd.prog 35 { kd := 1, size := 1, zero := .nilFunc } := TFact.cell (fun w => by kernel_rfl) (by kernel_rfl) rfl
theorem ti36 : TFact Tryd.prog 36 { kd := 1, size := 1, zero := .nilFunc } := TFact.cell (fun w => by kernel_rfl) (by kernel_rfl) rfl
theorem ti37 : TFact Tryd.prog 37 { kd := 1, size := 1, zero := .nilFunc } := TFact.cell (fun w => by kernel_rfl) (by kernel_rfl) rfl
theorem ti38 : TFact Tryd.prog 38 { kd := 1, size := 1, zero := .nilFunc } := TFact.cell (fun w => by kernel_rfl) (by kernel_rfl) rfl
theorem ti39 : TFact Tryd.prog 39 { kd := 1, size := 1, zero := .nilFunc } := TFact.cell (fun w => by kernel_rfl) (by kernel_rfl) rfl
theorem ti41 : TFact Tryd.prog 41 { kd := 1, size := 1, zero := .nilFunc } := TFact.cell (fun w => by kernel_rfl) (by kernel_rfl) rfl
theorem ti42 : TFact Tryd.prog 42 { kd := 1, size := 1, zero := .nilFunc } := TFact.cell (fun w => by kernel_rfl) (by kernel_rfl) rfl
theorem ti44 : TFact Tryd.prog 44 { kd := 1, size := 1, zero := .nilFunc } := TFact.cell (fun w => by kernel_rfl) (by kernel_rfl) rfl
theorem ti45 : TFact Tryd.prog 45 { kd := 1, size := 1, zero := .nilFunc } := TFact.cell (fun w => by kernel_rfl) (by kernel_rfl) rfl
theorem ti46 : TFact Tryd.prog 46 { kd := 1, size := 1, zero := .nilFunc } := TFact.cell (fun w => by kernel_rfl) (by kernel_rfl) rfl
theorem ti47 : TFact Tryd.prog 47 { kd := 1, size := 1, zero := .nilFunc } := TFact.cell (fun w => by kernel_rfl) (by kernel_rfl) rfl
theorem ti48 : TFact Tryd.prog 48 { kd := 1, size := 1, zero := .nilFunc } := TFact.cell (fun w => by kernel_rfl) (by kernel_rfl) rfl
theorem ti49 : TFact Tryd.prog 49 { kd := 1, size := 1, zero := .nilFunc } := TFact.cell (fun w => by kernel_rfl) (by kernel_rfl) rfl
theorem ti50 : TFact Tryd.prog 50 { kd := 1, size := 1, zero := .nilFunc } := TFact.cell (fun w => by kernel_rfl) (by kernel_rfl) rfl
theorem ti52 : TFact Tryd.prog 52 { kd := 1, size := 1, zero := .nilFunc } := TFact.cell (fun w => by kernel_rfl) (by kernel_rfl) rfl
theorem ti53 : TFact Tryd.prog 53 { kd := 1, size := 1, zero := .nilFunc } := TFact.cell (fun w => by kernel_rfl) (by kernel_rfl) rfl
theorem ti54 : TFact Tryd.prog 54 { kd := 1, size := 1, zero := .nilFunc } := TFact.cell (fun w => by kernel_rfl) (by kernel_rfl) rfl
theorem ti55 : TFact Tryd.prog 55 { kd := 4, size := 2, zero := .agg #[.slice none 0 0, .slice none 0 0], offs := [(0, 1), (1, 1)] } := TFact.struct1 (fs := _) (z := #[.slice none 0 0, .slice none 0 0]) (offs := [(0, 1), (1, 1)]) rfl (by kernel_rfl) (by kernel_rfl) (by rfl) (by rfl) (by decide) (by decide)
theorem ti56 : TFact Tryd.prog 56 { kd := 4, size := 2, zero := .agg #[.slice none 0 0, .slice none 0 0], offs := [(0, 1), (1, 1)] } := TFact.struct1 (fs := _) (z := #[.slice none 0 0, .slice none 0 0]) (offs := [(0, 1), (1, 1)]) rfl (by kernel_rfl) (by kernel_rfl) (by rfl) (by rfl) (by decide) (by decide)
theorem ti58 : TFact Tryd.prog 58 { kd := 1, size := 1, zero := .nilFunc } := TFact.cell (fun w => by kernel_rfl) (by kernel_rfl) rfl
theorem ti59 : TFact Tryd.prog 59 { kd := 1, size := 1, zero := .nilFunc } := TFact.cell (fun w => by kernel_rfl) (by kernel_rfl) rfl
theorem ti60 : TFact Tryd.prog 60 { kd := 1, size := 1, zero := .nilFunc } := TFact.cell (fun w => by kernel_rfl) (by kernel_rfl) rfl
theorem ti61 : TFact Tryd.prog 61 { kd := 4, size := 2, zero := .agg #[.slice none 0 0, .slice none 0 0], offs := [(0, 1), (1, 1)] } := TFact.struct1 (fs := _) (z := #[.slice none 0 0, .slice none 0 0]) (offs := [(0, 1), (1, 1)]) rfl (by kernel_rfl) (by kernel_rfl) (by rfl) (by rfl) (by decide) (by decide)
theorem ti62 : TFact Tryd.prog 62 { kd := 1, size := 1, zero := .nilFunc } := TFact.cell (fun w => by kernel_rfl) (by kernel_rfl) rfl
theorem ti63 : TFact Tryd.prog 63 { kd := 2, size := 1, zero := .slice none 0 0, elem := 4, eb := 4, ez := .agg #[(.int .u8 (0)), (.int .u8 (0)), (.int .u8 (0)), (.int .u8 (0))] } := TFact.slice1 (e := 74) (ze := .agg #[(.int .u8 (0)), (.int .u8 (0)), (.int .u8 (0)), (.int .u8 (0))]) (by kernel_rfl) (by kernel_rfl) (by kernel_rfl) (by rfl) (by rfl) (by decide)
theorem ti64 : TFact Tryd.prog 64 { kd := 4, size := 3, zero := .agg #[(.int .u8 (0)), (.int .u8 (0)), .slice none 0 0], offs := [(0, 1), (1, 1), (2, 1)] } := TFact.struct1 (fs := _) (z := #[(.int .u8 (0)), (.int .u8 (0)), .slice none 0 0]) (offs := [(0, 1), (1, 1), (2, 1)]) rfl (by kernel_rfl) (by kernel_rfl) (by rfl) (by rfl) (by decide) (by decide)
theorem ti65 : TFact Tryd.prog 65 { kd := 4, size := 3, zero := .agg #[(.int .u8 (0)), (.int .u8 (0)), .slice none 0 0], offs := [(0, 1), (1, 1), (2, 1)] } := TFact.struct1 (fs := _) (z := #[(.int .u8 (0)), (.int .u8 (0)), .slice none 0 0]) (offs := [(0, 1), (1, 1), (2, 1)]) rfl (by kernel_rfl) (by kernel_rfl) (by rfl) (by rfl) (by decide) (by decide)
theorem ti66 : TFact Tryd.prog 66 { kd := 1, size := 1, zero := .nilFunc } := TFact.cell (fun w => by kernel_rfl) (by kernel_rfl) rfl
theorem ti67 : TFact Tryd.prog 67 { kd := 1, size := 1, zero := .nilFunc } := TFact.cell (fun w => by kernel_rfl) (by kernel_rfl) rfl
theorem ti69 : TFact Tryd.prog 69 { kd := 1, size := 1, zero := .nilFunc } := TFact.cell (fun w => by kernel_rfl) (by kernel_rfl) rfl
theorem ti70 : TFact Tryd.prog 70 { kd := 1, size := 1, zero := .nilFunc } := TFact.cell (fun w => by kernel_rfl) (by kernel_rfl) rfl
theorem ti71 : TFact Tryd.prog 71 { kd := 1, size := 1, zero := .nilFunc } := TFact.cell (fun w => by kernel_rfl) (by kernel_rfl) rfl
theorem ti72 : TFact Tryd.prog 72 { kd := 1, size := 1, zero := .nilFunc } := TFact.cell (fun w => by kernel_rfl) (by kernel_rfl) rfl
theorem ti73 : TFact Tryd.prog 73 { kd := 1, size := 1, zero := .nilFunc } := TFact.cell (fun w => by kernel_rfl) (by kernel_rfl) rfl
theorem ti74 : TFact Tryd.prog 74 { kd := 3, size := 4, zero := .agg #[(.int .u8 (0)), (.int .u8 (0)), (.int .u8 (0)), (.int .u8 (0))], elem := 1, eb := 1, ez := .int .u8 (0), len := 4, one1 := true, eqd := some (.arr 4 (.int .u8)) } := TFact.array1 (e := 5) (ze := .int .u8 (0)) (z := #[(.int .u8 (0)), (.int .u8 (0)), (.int .u8 (0)), (.int .u8 (0))]) (by kernel_rfl) (by kernel_rfl) (by kernel_rfl) (by rfl) (by rfl) (by decide) (o1 := true) (fun _ w => by kernel_rfl) (q := some (.arr 4 (.int .u8))) (eq_arr (e := 5) (by kernel_rfl) (by kernel_rfl) (by kernel_rfl) (fun w => by kernel_rfl) (by kernel_rfl) (by kernel_rfl))
theorem ti75 : TFact Tryd.prog 75 { kd := 1, size := 1, zero := .nilFunc } := TFact.cell (fun w => by kernel_rfl) (by kernel_rfl) rfl
theorem ti76 : TFact Tryd.prog 76 { kd := 1, size := 1, zero := .nilFunc } := TFact.cell (fun w => by kernel_rfl) (by kernel_rfl) rfl
theorem ti77 : TFact Tryd.prog 77 { kd := 1, size := 1, zero := .nilFunc } := TFact.cell (fun w => by kernel_rfl) (by kernel_rfl) rfl
theorem ti78 : TFact Tryd.prog 78 { kd := 3, size := 2, zero := .agg #[(.int .u8 (0)), (.int .u8 (0))], elem := 1, eb := 1, ez := .int .u8 (0), len := 2, one1 := true, eqd := some (.arr 2 (.int .u8)) } := TFact.array1 (e := 5) (ze := .int .u8 (0)) (z := #[(.int .u8 (0)), (.int .u8 (0))]) (by kernel_rfl) (by kernel_rfl) (by kernel_rfl) (by rfl) (by rfl) (by decide) (o1 := true) (fun _ w => by kernel_rfl) (q := some (.arr 2 (.int .u8))) (eq_arr (e := 5) (by kernel_rfl) (by kernel_rfl) (by kernel_rfl) (fun w => by kernel_rfl) (by kernel_rfl) (by kernel_rfl))
theorem ti79 : TFact Tryd.prog 79 { kd := 1, size := 1, zero := .nilFunc } := TFact.cell (fun w => by kernel_rfl) (by kernel_rfl) rfl
theorem ti80 : TFact Tryd.prog 80 { kd := 1, size := 1, zero := .nilFunc } := TFact.cell (fun w => by kernel_rfl) (by kernel_rfl) rfl
theorem ti81 : TFact Tryd.prog 81 { kd := 1, size := 1, zero := .nilFunc } := TFact.cell (fun w => by kernel_rfl) (by kernel_rfl) rfl
theorem ti82 : TFact Tryd.prog 82 { kd := 1, size := 1, zero := .nilFunc } := TFact.cell (fun w => by kernel_rfl) (by kernel_rfl) rfl
theorem ti83 : TFact Tryd.prog 83 { kd := 1, size := 1, zero := .nilFunc } := TFact.cell (fun w => by kernel_rfl) (by kernel_rfl) rfl
theorem ti84 : TFact Tryd.prog 84 { kd := 1, size := 1, zero := .nilFunc } := TFact.cell (fun w => by kernel_rfl) (by kernel_rfl) rfl
theorem ti85 : TFact Tryd.prog 85 { kd := 1, size := 1, zero := .nilFunc } := TFact.cell (fun w => by kernel_rfl) (by kernel_rfl) rfl
theorem ti86 : TFact Tryd.prog 86 { kd := 3, size := 8, zero := .agg #[(.int .u8 (0)), (.int .u8 (0)), (.int .u8 (0)), (.int .u8 (0)), (.int .u8 (0)), (.int .u8 (0)), (.int .u8 (0)), (.int .u8 (0))], elem := 1, eb := 1, ez := .int .u8 (0), len := 8, one1 := true, eqd := some (.arr 8 (.int .u8)) } := TFact.array1 (e := 5) (ze := .int .u8 (0)) (z := #[(.int .u8 (0)), (.int .u8 (0)), (.int .u8 (0)), (.int .u8 (0)), (.int .u8 (0)), (.int .u8 (0)), (.int .u8 (0)), (.int .u8 (0))]) (by kernel_rfl) (by kernel_rfl) (by kernel_rfl) (by rfl) (by rfl) (by decide) (o1 := true) (fun _ w => by kernel_rfl) (q := some (.arr 8 (.int .u8))) (eq_arr (e := 5) (by kernel_rfl) (by kernel_rfl) (by kernel_rfl) (fun w => by kernel_rfl) (by kernel_rfl) (by kernel_rfl))
theorem ti87 : TFact Tryd.prog 87 { kd := 3, size := 8, zero := .agg #[(.int .u8 (0)), (.int .u8 (0)), (.int .u8 (0)), (.int .u8 (0)), (.int .u8 (0)), (.int .u8 (0)), (.int .u8 (0)), (.int .u8 (0))], elem := 1, eb := 1, ez := .int .u8 (0), len := 8, one1 := true, eqd := some (.arr 8 (.int .u8)) } := TFact.array1 (e := 5) (ze := .int .u8 (0)) (z := #[(.int .u8 (0)), (.int .u8 (0)), (.int .u8 (0)), (.int .u8 (0)), (.int .u8 (0)), (.int .u8 (0)), (.int .u8 (0)), (.int .u8 (0))]) (by kernel_rfl) (by kernel_rfl) (by kernel_rfl) (by rfl) (by rfl) (by decide) (o1 := true) (fun _ w => by kernel_rfl) (q := some (.arr 8 (.int .u8))) (eq_arr (e := 5) (by kernel_rfl) (by kernel_rfl) (by kernel_rfl) (fun w => by kernel_rfl) (by kernel_rfl) (by kernel_rfl))
theorem ti88 : TFact Tryd.prog 88 { kd := 1, size := 1, zero := .nilFunc } := TFact.cell (fun w => by kernel_rfl) (by kernel_rfl) rfl
theorem ti89 : TFact Tryd.prog 89 { kd := 1, size := 1, zero := .nilFunc } := TFact.cell (fun w => by kernel_rfl) (by kernel_rfl) rfl
theorem ti90 : TFact Tryd.prog 90 { kd := 1, size := 1, zero := .nilFunc } := TFact.cell (fun w => by kernel_rfl) (by kernel_rfl) rfl
theorem ti91 : TFact Tryd.prog 91 { kd := 1, size := 1, zero := .nilFunc } := TFact.cell (fun w => by kernel_rfl) (by kernel_rfl) rfl
theorem ti92 : TFact Tryd.prog 92 { kd := 1, size := 1, zero := .nilFunc } := TFact.cell (fun w => by kernel_rfl) (by kernel_rfl) rfl
theorem ti93 : TFact Tryd.prog 93 { kd := 1, size := 1, zero := .nilFunc } := TFact.cell (fun w => by kernel_rfl) (by kernel_rfl) rfl
theorem ti94 : TFact Tryd.prog 94 { kd := 1, size := 1, zero := .nilFunc } := TFact.cell (fun w => by kernel_rfl) (by kernel_rfl) rfl
theorem ti95 : TFact Tryd.prog 95 { kd := 1, size := 1, zero := .nilFunc } := TFact.cell (fun w => by kernel_rfl) (by kernel_rfl) rfl
theorem ti96 : TFact Tryd.prog 96 { kd := 1, size := 1, zero := .nilFunc } := TFact.cell (fun w => by kernel_rfl) (by kernel_rfl) rfl
theorem ti97 : TFact Tryd.prog 97 { kd := 1, size := 1, zero := .nilFunc } := TFact.cell (fun w => by kernel_rfl) (by kernel_rfl) rfl
theorem ti98 : TFact Tryd.prog 98 { kd := 1, size := 1, zero := .nilFunc } := TFact.cell (fun w => by kernel_rfl) (by kernel_rfl) rfl
theorem ti99 : TFact Tryd.prog 99 { kd := 1, size := 1, zero := .nilFunc } := TFact.cell (fun w => by kernel_rfl) (by kernel_rfl) rfl
theorem ti100 : TFact Tryd.prog 100 { kd := 1, size := 1, zero := .map none, mp := some (3, 3), mkv := some (.int .i64, .int .i64) } := TFact.map1 (by kernel_rfl) (by kernel_rfl) (q := some (.int .i64, .int .i64)) (mkv_of (z := .int .i64 (0)) (mapKey_int (by kernel_rfl)) (by kernel_rfl) (by rfl) (by rfl))
theorem ti101 : TFact Tryd.prog 101 { kd := 1, size := 1, zero := .nilFunc } := TFact.cell (fun w => by kernel_rfl) (by kernel_rfl) rfl
theorem ti102 : TFact Tryd.prog 102 { kd := 1, size := 1, zero := .nilFunc } := TFact.cell (fun w => by kernel_rfl) (by kernel_rfl) rfl
theorem ti104 : TFact Tryd.prog 104 { kd := 1, size := 1, zero := .nilFunc } := TFact.cell (fun w => by kernel_rfl) (by kernel_rfl) rfl
theorem ti105 : TFact Tryd.prog 105 { kd := 1, size := 1, zero := .nilFunc } := TFact.cell (fun w => by kernel_rfl) (by kernel_rfl) rfl
theorem ti106 : TFact Tryd.prog 106 { kd := 1, size := 1, zero := .nilFunc } := TFact.cell (fun w => by kernel_rfl) (by kernel_rfl) rfl
theorem ti107 : TFact Tryd.prog 107 { kd := 1, size := 1, zero := .nilFunc } := TFact.cell (fun w => by kernel_rfl) (by kernel_rfl) rfl
theorem ti108 : TFact Tryd.prog 108 { kd := 1, size := 1, zero := .nilFunc } := TFact.cell (fun w => by kernel_rfl) (by kernel_rfl) rfl
theorem ti109 : TFact Tryd.prog 109 { kd := 1, size := 1, zero := .nilFunc } := TFact.cell (fun w => by kernel_rfl) (by kernel_rfl) rfl
theorem ti110 : TFact Tryd.prog 110 { kd := 1, size := 1, zero := .nilFunc } := TFact.cell (fun w => by kernel_rfl) (by kernel_rfl) rfl
theorem ti111 : TFact Tryd.prog 111 { kd := 1, size := 1, zero := .nilFunc } := TFact.cell (fun w => by kernel_rfl) (by kernel_rfl) rfl
theorem ti112 : TFact Tryd.prog 112 { kd := 1, size := 1, zero := .nilFunc } := TFact.cell (fun w => by kernel_rfl) (by kernel_rfl) rfl
theorem ti113 : TFact Tryd.prog 113 { kd := 1, size := 1, zero := .int .u64 0, ik := some .u64 } := TFact.int1 (by kernel_rfl) (by kernel_rfl)
theorem ti114 : TFact Tryd.prog 114 { kd := 1, size := 1, zero := .nilFunc } := TFact.cell (fun w => by kernel_rfl) (by kernel_rfl) rfl
theorem ti115 : TFact Tryd.prog 115 { kd := 1, size := 1, zero := .nilFunc } := TFact.cell (fun w => by kernel_rfl) (by kernel_rfl) rfl
theorem ti116 : TFact Tryd.prog 116 { kd := 2, size := 1, zero := .slice none 0 0, elem := 1, eb := 1, ez := .int .u8 (0) } := TFact.slice1 (e := 5) (ze := .int .u8 (0)) (by kernel_rfl) (by kernel_rfl) (by kernel_rfl) (by rfl) (by rfl) (by decide)
theorem ti117 : TFact Tryd.prog 117 { kd := 1, size := 1, zero := .nilFunc } := TFact.cell (fun w => by kernel_rfl) (by kernel_rfl) rfl
theorem ti118 : TFact Tryd.prog 118 { kd := 1, size := 1, zero := .nilFunc } := TFact.cell (fun w => by kernel_rfl) (by kernel_rfl) rfl
theorem ti119 : TFact Tryd.prog 119 { kd := 1, size := 1, zero := .int .i64 0, ik := some .i64 } := TFact.int1 (by kernel_rfl) (by kernel_rfl)
theorem ti121 : TFact Tryd.prog 121 { kd := 1, size := 1, zero := .nilFunc } := TFact.cell (fun w => by kernel_rfl) (by kernel_rfl) rfl
theorem ti122 : TFact Tryd.prog 122 { kd := 1, size := 1, zero := .nilFunc } := TFact.cell (fun w => by kernel_rfl) (by kernel_rfl) rfl
theorem ti123 : TFact Tryd.prog 123 { kd := 1, size := 1, zero := .nilFunc } := TFact.cell (fun w => by kernel_rfl) (by kernel_rfl) rfl
theorem ti124 : TFact Tryd.prog 124 { kd := 1, size := 1, zero := .nilFunc } := TFact.cell (fun w => by kernel_rfl) (by kernel_rfl) rfl
theorem ti125 : TFact Tryd.prog 125 { kd := 1, size := 1, zero := .nilFunc } := TFact.cell (fun w => by kernel_rfl) (by kernel_rfl) rfl
theorem ti126 : TFact Tryd.prog 126 { kd := 1, size := 1, zero := .nilFunc } := TFact.cell (fun w => by kernel_rfl) (by kernel_rfl) rfl
theorem ti127 : TFact Tryd.prog 127 { kd := 1, size := 1, zero := .int .u32 0, ik := some .u32 } := TFact.int1 (by kernel_rfl) (by kernel_rfl)
theorem ti128 : TFact Tryd.prog 128 { kd := 1, size := 1, zero := .nilFunc } := TFact.cell (fun w => by kernel_rfl) (by kernel_rfl) rfl
theorem ti129 : TFact Tryd.prog 129 { kd := 1, size := 1, zero := .int .u64 0, ik := some .u64 } := TFact.int1 (by kernel_rfl) (by kernel_rfl)
theorem ti130 : TFact Tryd.prog 130 { kd := 1, size := 1, zero := .int .u64 0, ik := some .u64 } := TFact.int1 (by kernel_rfl) (by kernel_rfl)
theorem ti131 : TFact Tryd.prog 131 { kd := 1, size := 1, zero := .nilFunc } := TFact.cell (fun w => by kernel_rfl) (by kernel_rfl) rfl
theorem ti132 : TFact Tryd.prog 132 { kd := 1, size := 1, zero := .nilFunc } := TFact.cell (fun w => by kernel_rfl) (by kernel_rfl) rfl
theorem ti133 : TFact Tryd.prog 133 { kd := 1, size := 1, zero := .nilFunc } := TFact.cell (fun w => by kernel_rfl) (by kernel_rfl) rfl
theorem ti134 : TFact Tryd.prog 134 { kd := 1, size := 1, zero := .pointer none, pt := true } := TFact.ptr1 (e := 3) (by kernel_rfl) (by kernel_rfl)
theorem ti135 : TFact Tryd.prog 135 { kd := 1, size := 1, zero := .nilFunc } := TFact.cell (fun w => by kernel_rfl) (by kernel_rfl) rfl
theorem ti136 : TFact Tryd.prog 136 { kd := 1, size := 1, zero := .pointer none, pt := true } := TFact.ptr1 (e := 130) (by kernel_rfl) (by kernel_rfl)
theorem ti138 : TFact Tryd.prog 138 { kd := 1, size := 1, zero := .nilFunc } := TFact.cell (fun w => by kernel_rfl) (by kernel_rfl) rfl
theorem ti139 : TFact Tryd.prog 139 { kd := 1, size := 1, zero := .nilFunc } := TFact.cell (fun w => by kernel_rfl) (by kernel_rfl) rfl
theorem ti140 : TFact Tryd.prog 140 { kd := 4, size := 4, zero := .agg #[(.pointer none), (.pointer none), (.pointer none), (.string ⟨⟨[]⟩⟩)], offs := [(0, 1), (1, 1), (2, 1), (3, 1)] } := TFact.struct1 (fs := _) (z := #[(.pointer none), (.pointer none), (.pointer none), (.string ⟨⟨[]⟩⟩)]) (offs := [(0, 1), (1, 1), (2, 1), (3, 1)]) rfl (by kernel_rfl) (by kernel_rfl) (by rfl) (by rfl) (by decide) (by decide)
theorem ti141 : TFact Tryd.prog 141 { kd := 4, size := 4, zero := .agg #[(.pointer none), (.pointer none), (.pointer none), (.string ⟨⟨[]⟩⟩)], offs := [(0, 1), (1, 1), (2, 1), (3, 1)] } := TFact.struct1 (fs := _) (z := #[(.pointer none), (.pointer none), (.pointer none), (.string ⟨⟨[]⟩⟩)]) (offs := [(0, 1), (1, 1), (2, 1), (3, 1)]) rfl (by kernel_rfl) (by kernel_rfl) (by rfl) (by rfl) (by decide) (by decide)
theorem ti145 : TFact Tryd.prog 145 { kd := 1, size := 1, zero := .int .u8 0, ik := some .u8 } := TFact.int1 (by kernel_rfl) (by kernel_rfl)
theorem ti146 : TFact Tryd.prog 146 { kd := 1, size := 1, zero := .int .u8 0, ik := some .u8 } := TFact.int1 (by kernel_rfl) (by kernel_rfl)
theorem ti147 : TFact Tryd.prog 147 { kd := 1, size := 1, zero := .nilFunc } := TFact.cell (fun w => by kernel_rfl) (by kernel_rfl) rfl
theorem ti148 : TFact Tryd.prog 148 { kd := 1, size := 1, zero := .pointer none, pt := true } := TFact.ptr1 (e := 5) (by kernel_rfl) (by kernel_rfl)
theorem ti149 : TFact Tryd.prog 149 { kd := 1, size := 1, zero := .int .i32 0, ik := some .i32 } := TFact.int1 (by kernel_rfl) (by kernel_rfl)
theorem ti150 : TFact Tryd.prog 150 { kd := 1, size := 1, zero := .int .i32 0, ik := some .i32 } := TFact.int1 (by kernel_rfl) (by kernel_rfl)
theorem ti151 : TFact Tryd.prog 151 { kd := 4, size := 11, zero := .agg #[(.int .u64 (0)), (.int .u64 (0)), (.int .u32 (0)), (.int .u8 (0)), (.int .u8 (0)), (.int .u8 (0)), (.int .u8 (0)), (.nilFunc), (.pointer none), (.int .i32 (0)), (.int .i32 (0))], offs := [(0, 1), (1, 1), (2, 1), (3, 1), (4, 1), (5, 1), (6, 1), (7, 1), (8, 1), (9, 1), (10, 1)] } := TFact.struct1 (fs := _) (z := #[(.int .u64 (0)), (.int .u64 (0)), (.int .u32 (0)), (.int .u8 (0)), (.int .u8 (0)), (.int .u8 (0)), (.int .u8 (0)), (.nilFunc), (.pointer none), (.int .i32 (0)), (.int .i32 (0))]) (offs := [(0, 1), (1, 1), (2, 1), (3, 1), (4, 1), (5, 1), (6, 1), (7, 1), (8, 1), (9, 1), (10, 1)]) rfl (by kernel_rfl) (by kernel_rfl) (by rfl) (by rfl) (by decide) (by decide)
theorem ti152 : TFact Tryd.prog 152 { kd := 4, size := 11, zero := .agg #[(.int .u64 (0)), (.int .u64 (0)), (.int .u32 (0)), (.int .u8 (0)), (.int .u8 (0)), (.int .u8 (0)), (.int .u8 (0)), (.nilFunc), (.pointer none), (.int .i32 (0)), (.int .i32 (0))], offs := [(0, 1), (1, 1), (2, 1), (3, 1), (4, 1), (5, 1), (6, 1), (7, 1), (8, 1), (9, 1), (10, 1)] } := TFact.struct1 (fs := _) (z := #[(.int .u64 (0)), (.int .u64 (0)), (.int .u32 (0)), (.int .u8 (0)), (.int .u8 (0)), (.int .u8 (0)), (.int .u8 (0)), (.nilFunc), (.pointer none), (.int .i32 (0)), (.int .i32 (0))]) (offs := [(0, 1), (1, 1), (2, 1), (3, 1), (4, 1), (5, 1), (6, 1), (7, 1), (8, 1), (9, 1), (10, 1)]) rfl (by kernel_rfl) (by kernel_rfl) (by rfl) (by rfl) (by decide) (by decide)

def TI : Nat → TD
  | 1 => { kd := 1, size := 1, zero := .nilFunc }
  | 2 => { kd := 1, size := 1, zero := .int .i64 0, ik := some .i64 }
  | 3 => { kd := 1, size := 1, zero := .int .i64 0, ik := some .i64 }
  | 4 => { kd := 1, size := 1, zero := .bool false, bl := true }
  | 5 => { kd := 1, size := 1, zero := .int .u8 0, ik := some .u8 }
  | 6 => { kd := 1, size := 1, zero := .int .u8 0, ik := some .u8 }
  | 7 => { kd := 4, size := 4, zero := .agg #[(.int .i64 (0)), (.int .i64 (0)), (.bool false), (.int .u8 (0))], offs := [(0, 1), (1, 1), (2, 1), (3, 1)] }
  | 8 => { kd := 4, size := 4, zero := .agg #[(.int .i64 (0)), (.int .i64 (0)), (.bool false), (.int .u8 (0))], offs := [(0, 1), (1, 1), (2, 1), (3, 1)] }
  | 9 => { kd := 1, size := 1, zero := .string ⟨⟨[]⟩⟩, st := true }
  | 10 => { kd := 1, size := 1, zero := .string ⟨⟨[]⟩⟩, st := true }
  | 11 => { kd := 1, size := 1, zero := .string ⟨⟨[]⟩⟩, st := true }
  | 12 => { kd := 1, size := 1, zero := .int .u64 0, ik := some .u64 }
  | 13 => { kd := 4, size := 2, zero := .agg #[(.string ⟨⟨[]⟩⟩), (.int .u64 (0))], offs := [(0, 1), (1, 1)] }
  | 14 => { kd := 4, size := 2, zero := .agg #[(.string ⟨⟨[]⟩⟩), (.int .u64 (0))], offs := [(0, 1), (1, 1)] }
  | 15 => { kd := 1, size := 1, zero := .pointer none, pt := true }
  | 16 => { kd := 1, size := 1, zero := .pointer none, pt := true }
  | 17 => { kd := 1, size := 1, zero := .pointer none, pt := true }
  | 18 => { kd := 4, size := 1, zero := .agg #[(.pointer none)], offs := [(0, 1)] }
  | 19 => { kd := 4, size := 1, zero := .agg #[(.pointer none)], offs := [(0, 1)] }
  | 20 => { kd := 1, size := 1, zero := .nilIface }
  | 21 => { kd := 1, size := 1, zero := .int .i32 0, ik := some .i32 }
  | 22 => { kd := 2, size := 1, zero := .slice none 0 0, elem := 1, eb := 24, ez := .slice none 0 0 }
  | 23 => { kd := 4, size := 2, zero := .agg #[(.int .i64 (0)), .slice none 0 0], offs := [(0, 1), (1, 1)] }
  | 24 => { kd := 4, size := 2, zero := .agg #[(.int .i64 (0)), .slice none 0 0], offs := [(0, 1), (1, 1)] }
  | 25 => { kd := 2, size := 1, zero := .slice none 0 0, elem := 1, eb := 8, ez := .int .i64 (0) }
  | 26 => { kd := 1, size := 1, zero := .nilFunc }
  | 27 => { kd := 1, size := 1, zero := .nilFunc }
  | 28 => { kd := 4, size := 2, zero := .agg #[(.int .i64 (0)), .slice none 0 0], offs := [(0, 1), (1, 1)] }
  | 29 => { kd := 1, size := 1, zero := .int .i64 0, ik := some .i64 }
  | 31 => { kd := 1, size := 1, zero := .nilFunc }
  | 32 => { kd := 1, size := 1, zero := .nilFunc }
  | 33 => { kd := 1, size := 1, zero := .nilFunc }
  | 34 => { kd := 1, size := 1, zero := .nilFunc }
  | 35 => { kd := 1, size := 1, zero := .nilFunc }
  | 36 => { kd := 1, size := 1, zero := .nilFunc }
  | 37 => { kd := 1, size := 1, zero := .nilFunc }
  | 38 => { kd := 1, size := 1, zero := .nilFunc }
  | 39 => { kd := 1, size := 1, zero := .nilFunc }
  | 41 => { kd := 1, size := 1, zero := .nilFunc }
  | 42 => { kd := 1, size := 1, zero := .nilFunc }
  | 44 => { kd := 1, size := 1, zero := .nilFunc }
  | 45 => { kd := 1, size := 1, zero := .nilFunc }
  | 46 => { kd := 1, size := 1, zero := .nilFunc }
  | 47 => { kd := 1, size := 1, zero := .nilFunc }
  | 48 => { kd := 1, size := 1, zero := .nilFunc }
  | 49 => { kd := 1, size := 1, zero := .nilFunc }
  | 50 => { kd := 1, size := 1, zero := .nilFunc }
  | 52 => { kd := 1, size := 1, zero := .nilFunc }
  | 53 => { kd := 1, size := 1, zero := .nilFunc }
  | 54 => { kd := 1, size := 1, zero := .nilFunc }
  | 55 => { kd := 4, size := 2, zero := .agg #[.slice none 0 0, .slice none 0 0], offs := [(0, 1), (1, 1)] }
  | 56 => { kd := 4, size := 2, zero := .agg #[.slice none 0 0, .slice none 0 0], offs := [(0, 1), (1, 1)] }
  | 58 => { kd := 1, size := 1, zero := .nilFunc }
  | 59 => { kd := 1, size := 1, zero := .nilFunc }
  | 60 => { kd := 1, size := 1, zero := .nilFunc }
  | 61 => { kd := 4, size := 2, zero := .agg #[.slice none 0 0, .slice none 0 0], offs := [(0, 1), (1, 1)] }
  | 62 => { kd := 1, size := 1, zero := .nilFunc }
  | 63 => { kd := 2, size := 1, zero := .slice none 0 0, elem := 4, eb := 4, ez := .agg #[(.int .u8 (0)), (.int .u8 (0)), (.int .u8 (0)), (.int .u8 (0))] }
  | 64 => { kd := 4, size := 3, zero := .agg #[(.int .u8 (0)), (.int .u8 (0)), .slice none 0 0], offs := [(0, 1), (1, 1), (2, 1)] }
  | 65 => { kd := 4, size := 3, zero := .agg #[(.int .u8 (0)), (.int .u8 (0)), .slice none 0 0], offs := [(0, 1), (1, 1), (2, 1)] }
  | 66 => { kd := 1, size := 1, zero := .nilFunc }
  | 67 => { kd := 1, size := 1, zero := .nilFunc }
  | 69 => { kd := 1, size := 1, zero := .nilFunc }
  | 70 => { kd := 1, size := 1, zero := .nilFunc }
  | 71 => { kd := 1, size := 1, zero := .nilFunc }
  | 72 => { kd := 1, size := 1, zero := .nilFunc }
  | 73 => { kd := 1, size := 1, zero := .nilFunc }
  | 74 => { kd := 3, size := 4, zero := .agg #[(.int .u8 (0)), (.int .u8 (0)), (.int .u8 (0)), (.int .u8 (0))], elem := 1, eb := 1, ez := .int .u8 (0), len := 4, one1 := true, eqd := some (.arr 4 (.int .u8)) }
  | 75 => { kd := 1, size := 1, zero := .nilFunc }
  | 76 => { kd := 1, size := 1, zero := .nilFunc }
  | 77 => { kd := 1, size := 1, zero := .nilFunc }
  | 78 => { kd := 3, size := 2, zero := .agg #[(.int .u8 (0)), (.int .u8 (0))], elem := 1, eb := 1, ez := .int .u8 (0), len := 2, one1 := true, eqd := some (.arr 2 (.int .u8)) }
  | 79 => { kd := 1, size := 1, zero := .nilFunc }
  | 80 => { kd := 1, size := 1, zero := .nilFunc }
  | 81 => { kd := 1, size := 1, zero := .nilFunc }
  | 82 => { kd := 1, size := 1, zero := .nilFunc }
  | 83 => { kd := 1, size := 1, zero := .nilFunc }
  | 84 => { kd := 1, size := 1, zero := .nilFunc }
  | 85 => { kd := 1, size := 1, zero := .nilFunc }
  | 86 => { kd := 3, size := 8, zero := .agg #[(.int .u8 (0)), (.int .u8 (0)), (.int .u8 (0)), (.int .u8 (0)), (.int .u8 (0)), (.int .u8 (0)), (.int .u8 (0)), (.int .u8 (0))], elem := 1, eb := 1, ez := .int .u8 (0), len := 8, one1 := true, eqd := some (.arr 8 (.int .u8)) }
  | 87 => { kd := 3, size := 8, zero := .agg #[(.int .u8 (0)), (.int .u8 (0)), (.int .u8 (0)), (.int .u8 (0)), (.int .u8 (0)), (.int .u8 (0)), (.int .u8 (0)), (.int .u8 (0))], elem := 1, eb := 1, ez := .int .u8 (0), len := 8, one1 := true, eqd := some (.arr 8 (.int .u8)) }
  | 88 => { kd := 1, size := 1, zero := .nilFunc }
  | 89 => { kd := 1, size := 1, zero := .nilFunc }
  | 90 => { kd := 1, size := 1, zero := .nilFunc }
  | 91 => { kd := 1, size := 1, zero := .nilFunc }
  | 92 => { kd := 1, size := 1, zero := .nilFunc }
  | 93 => { kd := 1, size := 1, zero := .nilFunc }
  | 94 => { kd := 1, size := 1, zero := .nilFunc }
  | 95 => { kd := 1, size := 1, zero := .nilFunc }
  | 96 => { kd := 1, size := 1, zero := .nilFunc }
  | 97 => { kd := 1, size := 1, zero := .nilFunc }
  | 98 => { kd := 1, size := 1, zero := .nilFunc }
  | 99 => { kd := 1, size := 1, zero := .nilFunc }
  | 100 => { kd := 1, size := 1, zero := .map none, mp := some (3, 3), mkv := some (.int .i64, .int .i64) }
  | 101 => { kd := 1, size := 1, zero := .nilFunc }
  | 102 => { kd := 1, size := 1, zero := .nilFunc }
  | 104 => { kd := 1, size := 1, zero := .nilFunc }
  | 105 => { kd := 1, size := 1, zero := .nilFunc }
  | 106 => { kd := 1, size := 1, zero := .nilFunc }
  | 107 => { kd := 1, size := 1, zero := .nilFunc }
  | 108 => { kd := 1, size := 1, zero := .nilFunc }
  | 109 => { kd := 1, size := 1, zero := .nilFunc }
  | 110 => { kd := 1, size := 1, zero := .nilFunc }
  | 111 => { kd := 1, size := 1, zero := .nilFunc }
  | 112 => { kd := 1, size := 1, zero := .nilFunc }
  | 113 => { kd := 1, size := 1, zero := .int .u64 0, ik := some .u64 }
  | 114 => { kd := 1, size := 1, zero := .nilFunc }
  | 115 => { kd := 1, size := 1, zero := .nilFunc }
  | 116 => { kd := 2, size := 1, zero := .slice none 0 0, elem := 1, eb := 1, ez := .int .u8 (0) }
  | 117 => { kd := 1, size := 1, zero := .nilFunc }
  | 118 => { kd := 1, size := 1, zero := .nilFunc }
  | 119 => { kd := 1, size := 1, zero := .int .i64 0, ik := some .i64 }
  | 121 => { kd := 1, size := 1, zero := .nilFunc }
  | 122 => { kd := 1, size := 1, zero := .nilFunc }
  | 123 => { kd := 1, size := 1, zero := .nilFunc }
  | 124 => { kd := 1, size := 1, zero := .nilFunc }
  | 125 => { kd := 1, size := 1, zero := .nilFunc }
  | 126 => { kd := 1, size := 1, zero := .nilFunc }
  | 127 => { kd := 1, size := 1, zero := .int .u32 0, ik := some .u32 }
  | 128 => { kd := 1, size := 1, zero := .nilFunc }
  | 129 => { kd := 1, size := 1, zero := .int .u64 0, ik := some .u64 }
  | 130 => { kd := 1, size := 1, zero := .int .u64 0, ik := some .u64 }
  | 131 => { kd := 1, size := 1, zero := .nilFunc }
  | 132 => { kd := 1, size := 1, zero := .nilFunc }
  | 133 => { kd := 1, size := 1, zero := .nilFunc }
  | 134 => { kd := 1, size := 1, zero := .pointer none, pt := true }
  | 135 => { kd := 1, size := 1, zero := .nilFunc }
  | 136 => { kd := 1, size := 1, zero := .pointer none, pt := true }
  | 138 => { kd := 1, size := 1, zero := .nilFunc }
  | 139 => { kd := 1, size := 1, zero := .nilFunc }
  | 140 => { kd := 4, size := 4, zero := .agg #[(.pointer none), (.pointer none), (.pointer none), (.string ⟨⟨[]⟩⟩)], offs := [(0, 1), (1, 1), (2, 1), (3, 1)] }
  | 141 => { kd := 4, size := 4, zero := .agg #[(.pointer none), (.pointer none), (.pointer none), (.string ⟨⟨[]⟩⟩)], offs := [(0, 1), (1, 1), (2, 1), (3, 1)] }
  | 145 => { kd := 1, size := 1, zero := .int .u8 0, ik := some .u8 }
  | 146 => { kd := 1, size := 1, zero := .int .u8 0, ik := some .u8 }
  | 147 => { kd := 1, size := 1, zero := .nilFunc }
  | 148 => { kd := 1, size := 1, zero := .pointer none, pt := true }
  | 149 => { kd := 1, size := 1, zero := .int .i32 0, ik := some .i32 }
  | 150 => { kd := 1, size := 1, zero := .int .i32 0, ik := some .i32 }
  | 151 => { kd := 4, size := 11, zero := .agg #[(.int .u64 (0)), (.int .u64 (0)), (.int .u32 (0)), (.int .u8 (0)), (.int .u8 (0)), (.int .u8 (0)), (.int .u8 (0)), (.nilFunc), (.pointer none), (.int .i32 (0)), (.int .i32 (0))], offs := [(0, 1), (1, 1), (2, 1), (3, 1), (4, 1), (5, 1), (6, 1), (7, 1), (8, 1), (9, 1), (10, 1)] }
  | 152 => { kd := 4, size := 11, zero := .agg #[(.int .u64 (0)), (.int .u64 (0)), (.int .u32 (0)), (.int .u8 (0)), (.int .u8 (0)), (.int .u8 (0)), (.int .u8 (0)), (.nilFunc), (.pointer none), (.int .i32 (0)), (.int .i32 (0))], offs := [(0, 1), (1, 1), (2, 1), (3, 1), (4, 1), (5, 1), (6, 1), (7, 1), (8, 1), (9, 1), (10, 1)] }
  | _ => {}

theorem tok : TOK Tryd.prog TI := fun T => by
  unfold TI
  split
  · exact ti1
  · exact ti2
  · exact ti3
  · exact ti4
  · exact ti5
  · exact ti6
  · exact ti7
  · exact ti8
  · exact ti9
  · exact ti10
  · exact ti11
  · exact ti12
  · exact ti13
  · exact ti14
  · exact ti15
  · exact ti16
  · exact ti17
  · exact ti18
  · exact ti19
  · exact ti20
  · exact ti21
  · exact ti22
  · exact ti23
  · exact ti24
  · exact ti25
  · exact ti26
  · exact ti27
  · exact ti28
  · exact ti29
  · exact ti31
  · exact ti32
  · exact ti33
  · exact ti34
  · exact ti35
  · exact ti36
  · exact ti37
  · exact ti38
  · exact ti39
  · exact ti41
  · exact ti42
  · exact ti44
  · exact ti45
  · exact ti46
  · exact ti47
  · exact ti48
  · exact ti49
  · exact ti50
  · exact ti52
  · exact ti53
  · exact ti54
  · exact ti55
  · exact ti56
  · exact ti58
  · exact ti59
  · exact ti60
  · exact ti61
  · exact ti62
  · exact ti63
  · exact ti64
  · exact ti65
  · exact ti66
  · exact ti67
  · exact ti69
  · exact ti70
  · exact ti71
  · exact ti72
  · exact ti73
  · exact ti74
  · exact ti75
  · exact ti76
  · exact ti77
  · exact ti78
  · exact ti79
  · exact ti80
  · exact ti81
  · exact ti82
  · exact ti83
  · exact ti84
  · exact ti85
  · exact ti86
  · exact ti87
  · exact ti88
  · exact ti89
  · exact ti90
  · exact ti91
  · exact ti92
  · exact ti93
  · exact ti94
  · exact ti95
  · exact ti96
  · exact ti97
  · exact ti98
  · exact ti99
  · exact ti100
  · exact ti101
  · exact ti102
  · exact ti104
  · exact ti105
  · exact ti106
  · exact ti107
  · exact ti108
  · exact ti109
  · exact ti110
  · exact ti111
  · exact ti112
  · exact ti113
  · exact ti114
  · exact ti115
  · exact ti116
  · exact ti117
  · exact ti118
  · exact ti119
  · exact ti121
  · exact ti122
  · exact ti123
  · exact ti124
  · exact ti125
  · exact ti126
  · exact ti127
  · exact ti128
  · exact ti129
  · exact ti130
  · exact ti131
  · exact ti132
  · exact ti133
  · exact ti134
  · exact ti135
  · exact ti136
  · exact ti138
  · exact ti139
  · exact ti140
  · exact ti141
  · exact ti145
  · exact ti146
  · exact ti147
  · exact ti148
  · exact ti149
  · exact ti150
  · exact ti151
  · exact ti152
  · exact TFact.nothing

end Go.Proofs.YtbjfbbfglkmadaaDoor
