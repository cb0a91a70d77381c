/-
  The seat's types as typed data. Written by a program (gen_ty.py).
-/
import Derived.Test.YtaioadjcdjmkdaaQTI
namespace Go.Proofs.Ytaioadjcdjmkdaa

def TY : Nat → DT
  | 2 => .int .i64
  | 3 => .int .i64
  | 4 => .bool
  | 5 => .int .u8
  | 6 => .int .u8
  | 7 => .pair (.int .i64) (.pair (.int .i64) (.pair (.bool) (.pair (.int .u8) (.unit))))
  | 8 => .pair (.int .i64) (.pair (.int .i64) (.pair (.bool) (.pair (.int .u8) (.unit))))
  | 9 => .str
  | 10 => .str
  | 11 => .str
  | 12 => .int .u64
  | 13 => .pair (.str) (.pair (.int .u64) (.unit))
  | 14 => .pair (.str) (.pair (.int .u64) (.unit))
  | 21 => .int .i32
  | 22 => .sl (.sl (.int .i64))
  | 23 => .pair (.int .i64) (.pair (.sl (.sl (.int .i64))) (.unit))
  | 24 => .pair (.int .i64) (.pair (.sl (.sl (.int .i64))) (.unit))
  | 25 => .sl (.int .i64)
  | 26 => .sl (.bool)
  | 29 => .pair (.int .i64) (.pair (.sl (.sl (.int .i64))) (.unit))
  | 30 => .int .i64
  | 59 => .sl (.arr 5 (.int .u8))
  | 60 => .pair (.int .u8) (.pair (.sl (.arr 5 (.int .u8))) (.unit))
  | 61 => .pair (.int .u8) (.pair (.sl (.arr 5 (.int .u8))) (.unit))
  | 62 => .sl (.int .u8)
  | 72 => .arr 5 (.int .u8)
  | 77 => .arr 4 (.int .u8)
  | 81 => .int .u8
  | 86 => .ifc 114 (.int .i64) (.ifc 115 (.sl (.int .i64)) (.ifn))
  | 87 => .ifc 114 (.int .i64) (.ifc 115 (.sl (.int .i64)) (.ifn))
  | 94 => .sl (.fp (.pair (.sl (.bool)) (.pair (.int .i64) (.unit))))
  | 95 => .fp (.pair (.sl (.bool)) (.pair (.int .i64) (.unit)))
  | 96 => .pair (.sl (.bool)) (.pair (.int .i64) (.unit))
  | 97 => .pair (.sl (.bool)) (.pair (.int .i64) (.unit))
  | 98 => .arr 2 (.int .i64)
  | 114 => .int .i64
  | 115 => .sl (.int .i64)
  | 119 => .sl (.int .u8)
  | 124 => .int .u64
  | 126 => .int .i64
  | 135 => .int .u32
  | 137 => .int .u64
  | 138 => .int .u64
  | 154 => .int .u8
  | 155 => .int .u8
  | 158 => .int .i32
  | 159 => .int .i32
  | _ => .unit

end Go.Proofs.Ytaioadjcdjmkdaa
