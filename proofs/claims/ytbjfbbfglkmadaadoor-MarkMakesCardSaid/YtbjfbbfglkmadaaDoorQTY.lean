/-
  The seat's types as typed data. Written by a program (gen_ty.py).
-/
import Derived.Test.YtbjfbbfglkmadaaDoorQTI
namespace Go.Proofs.YtbjfbbfglkmadaaDoor

def TY : Nat → DT
  | 2 => .int .i64
  | 3 => .int .i64
  | 4 => .bool
  | 5 => .int .u8
  | 6 => .int .u8
  | 7 => .pair (.int .i64) (.pair (.int .i64) (.pair (.bool) (.pair (.int .u8) (.unit))))
  | 8 => .pair (.int .i64) (.pair (.int .i64) (.pair (.bool) (.pair (.int .u8) (.unit))))
  | 9 => .str
  | 10 => .str
  | 11 => .str
  | 12 => .int .u64
  | 13 => .pair (.str) (.pair (.int .u64) (.unit))
  | 14 => .pair (.str) (.pair (.int .u64) (.unit))
  | 21 => .int .i32
  | 22 => .sl (.sl (.int .i64))
  | 23 => .pair (.int .i64) (.pair (.sl (.sl (.int .i64))) (.unit))
  | 24 => .pair (.int .i64) (.pair (.sl (.sl (.int .i64))) (.unit))
  | 25 => .sl (.int .i64)
  | 28 => .pair (.int .i64) (.pair (.sl (.sl (.int .i64))) (.unit))
  | 29 => .int .i64
  | 55 => .pair (.sl (.int .i64)) (.pair (.sl (.sl (.int .i64))) (.unit))
  | 56 => .pair (.sl (.int .i64)) (.pair (.sl (.sl (.int .i64))) (.unit))
  | 61 => .pair (.sl (.int .i64)) (.pair (.sl (.sl (.int .i64))) (.unit))
  | 63 => .sl (.arr 4 (.int .u8))
  | 64 => .pair (.int .u8) (.pair (.int .u8) (.pair (.sl (.arr 4 (.int .u8))) (.unit)))
  | 65 => .pair (.int .u8) (.pair (.int .u8) (.pair (.sl (.arr 4 (.int .u8))) (.unit)))
  | 74 => .arr 4 (.int .u8)
  | 78 => .arr 2 (.int .u8)
  | 86 => .arr 8 (.int .u8)
  | 87 => .arr 8 (.int .u8)
  | 113 => .int .u64
  | 116 => .sl (.int .u8)
  | 119 => .int .i64
  | 127 => .int .u32
  | 129 => .int .u64
  | 130 => .int .u64
  | 145 => .int .u8
  | 146 => .int .u8
  | 149 => .int .i32
  | 150 => .int .i32
  | _ => .unit

end Go.Proofs.YtbjfbbfglkmadaaDoor
