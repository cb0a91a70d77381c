/-
  The seat's types as typed data. Written by a program (gen_ty.py).
-/
import Derived.Test.YtjcgjbdlgmbepaaQTI
namespace Go.Proofs.Ytjcgjbdlgmbepaa

def TY : Nat → DT
  | 2 => .int .i64
  | 3 => .int .i64
  | 4 => .bool
  | 5 => .int .u8
  | 6 => .int .u8
  | 7 => .pair (.int .i64) (.pair (.int .i64) (.pair (.bool) (.pair (.int .u8) (.unit))))
  | 8 => .pair (.int .i64) (.pair (.int .i64) (.pair (.bool) (.pair (.int .u8) (.unit))))
  | 9 => .str
  | 10 => .str
  | 11 => .str
  | 12 => .int .u64
  | 13 => .pair (.str) (.pair (.int .u64) (.unit))
  | 14 => .pair (.str) (.pair (.int .u64) (.unit))
  | 21 => .int .i32
  | 22 => .sl (.int .i64)
  | 24 => .int .i64
  | 37 => .sl (.pair (.sl (.int .i64)) (.pair (.sl (.int .i64)) (.unit)))
  | 39 => .sl (.pair (.sl (.int .i64)) (.pair (.sl (.int .i64)) (.unit)))
  | 46 => .arr 2 (.int .i64)
  | 50 => .sl (.arr 2 (.int .i64))
  | 59 => .sl (.int .u8)
  | 60 => .int .u16
  | 68 => .int .i8
  | 71 => .sl (.arr 9 (.int .u8))
  | 72 => .pair (.int .u8) (.pair (.sl (.arr 9 (.int .u8))) (.unit))
  | 73 => .pair (.int .u8) (.pair (.sl (.arr 9 (.int .u8))) (.unit))
  | 80 => .pair (.sl (.int .i64)) (.pair (.sl (.int .i64)) (.unit))
  | 81 => .pair (.sl (.int .i64)) (.pair (.sl (.int .i64)) (.unit))
  | 82 => .arr 3 (.int .i64)
  | 89 => .sl (.bool)
  | 93 => .sl (.sl (.int .i64))
  | 97 => .pair (.sl (.int .i64)) (.pair (.sl (.int .i64)) (.unit))
  | 104 => .sl (.arr 3 (.int .i64))
  | 108 => .arr 3 (.int .i64)
  | 109 => .arr 9 (.int .u8)
  | 113 => .int .u64
  | 116 => .int .i64
  | 124 => .int .u32
  | 126 => .int .u64
  | 127 => .int .u64
  | 142 => .int .u8
  | 143 => .int .u8
  | 146 => .int .i32
  | 147 => .int .i32
  | _ => .unit

end Go.Proofs.Ytjcgjbdlgmbepaa
