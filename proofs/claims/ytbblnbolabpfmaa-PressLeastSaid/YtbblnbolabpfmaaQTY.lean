/-
  The seat's types as typed data. Written by a program (gen_ty.py).
-/
import Derived.Test.YtbblnbolabpfmaaQTI
namespace Go.Proofs.Ytbblnbolabpfmaa

def TY : Nat → DT
  | 2 => .int .i64
  | 3 => .int .i64
  | 4 => .bool
  | 5 => .int .u8
  | 6 => .int .u8
  | 7 => .pair (.int .i64) (.pair (.int .i64) (.pair (.bool) (.pair (.int .u8) (.unit))))
  | 8 => .pair (.int .i64) (.pair (.int .i64) (.pair (.bool) (.pair (.int .u8) (.unit))))
  | 9 => .str
  | 10 => .str
  | 11 => .str
  | 12 => .int .u64
  | 13 => .pair (.str) (.pair (.int .u64) (.unit))
  | 14 => .pair (.str) (.pair (.int .u64) (.unit))
  | 21 => .int .i32
  | 22 => .sl (.pair (.int .i64) (.pair (.int .i64) (.unit)))
  | 23 => .sl (.int .i64)
  | 25 => .sl (.pair (.int .i64) (.pair (.int .i64) (.unit)))
  | 27 => .int .i64
  | 49 => .sl (.arr 2 (.int .u8))
  | 50 => .sl (.arr 2 (.int .u8))
  | 55 => .pair (.int .i64) (.pair (.int .i64) (.unit))
  | 56 => .pair (.int .i64) (.pair (.int .i64) (.unit))
  | 62 => .arr 6 (.int .u8)
  | 65 => .pair (.int .i64) (.pair (.int .i64) (.unit))
  | 79 => .arr 31 (.int .i64)
  | 80 => .arr 2 (.int .u8)
  | 97 => .int .u64
  | 101 => .sl (.sl (.pair (.int .i64) (.pair (.int .i64) (.unit))))
  | 103 => .int .i64
  | 112 => .int .u32
  | 114 => .int .u64
  | 117 => .int .u64
  | 134 => .int .u8
  | 135 => .int .u8
  | 138 => .int .i32
  | 139 => .int .i32
  | _ => .unit

end Go.Proofs.Ytbblnbolabpfmaa
