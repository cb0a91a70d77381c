/-
 DERIVED: THE SHELF's CONTRACTS AT THIS DUMP, IN PLAIN WORDS (tools/lay-plain.mjs out of 'TrydShelf.lean', which tools/lay-shelf.mjs wrote): THE SAME DECLARATIONS UNDER THE SAME NAMES: 'import', 'namespace', 'open', 'def', 'theorem' AND NOTHING ELSE: no command of the shelf's: FOR A HAND-IN. Each laying: the table of numbers ('.._ren') and one theorem, a field a fact of the dump's own or the kernel's comparison; each contract: ONE APPLICATION.
-/
import Derived.Shelf.Strings.Builder1
import Derived.Shelf.Strings.Builder2
import Derived.Shelf.Small.Utf8
import Derived.Shelf.Small.Bits
import Derived.Shelf.Strings.BuilderF
import Derived.Shelf.Strings.BuilderK
import Derived.Shelf.Strings.BuilderRune
import Derived.Shelf.Strings.Builder2Cap
import Derived.Shelf.Strconv.Itoa0
import Derived.Shelf.Unicode.DecodeSlow
import Derived.Shelf.Unicode.DecodeAny
import Derived.Shelf.Strings.MapAny
import Derived.Shelf.Strings.BuilderCap
import Derived.Shelf.Strings.MapGrows
import Derived.Test.YtmpbbkldopfkpaaDoorProg
namespace Go.Proofs
open Go.Shelf
def Tryd.lays169_ren : Go.Shelf.Ren := ⟨fun | 169 => 63 | n => n, fun | 70 => 107 | 9 => 9 | 0 => 0 | 72 => 109 | 37 => 49 | 127 => 123 | 3 => 3 | 5 => 5 | n => n, fun | n => n⟩
theorem Tryd.lays169 : Go.Proofs.Lays.n169 Tryd.prog Tryd.lays169_ren := {
 mixed := by kernel_rfl
 f169 := Tryd.func63.trans (congrArg some (by kernel_rfl))
 t0 := Tryd.underlying0
 a0 := Tryd.isAgg0
 z0 := Tryd.sizeOf0
 v0 := Tryd.zeroValue0
 t3 := Tryd.underlying3
 a3 := Tryd.isAgg3
 z3 := Tryd.sizeOf3
 v3 := Tryd.zeroValue3
 t9 := Tryd.underlying9
 a9 := Tryd.isAgg9
 z9 := Tryd.sizeOf9
 v9 := Tryd.zeroValue9
 t37 := Tryd.underlying49
 a37 := Tryd.isAgg49
 z37 := Tryd.sizeOf49
 v37 := Tryd.zeroValue49
 t70 := Tryd.underlying107
 a70 := Tryd.isAgg107
 z70 := Tryd.sizeOf107
 v70 := Tryd.zeroValue107
 t72 := Tryd.underlying109
 a72 := Tryd.isAgg109
 z72 := Tryd.sizeOf109
 v72 := Tryd.zeroValue109
 t127 := Tryd.underlying123
 a127 := Tryd.isAgg123
 z127 := Tryd.sizeOf123
 v127 := Tryd.zeroValue123 }
theorem Tryd.Builder_Extra_169 : Builder.Extra Tryd.prog Tryd.lays169_ren := {
 sizeBuilder := by kernel_rfl
 liesBuilder := by kernel_rfl
 t5 := Tryd.underlying5
 a5 := Tryd.isAgg5
 z5 := Tryd.sizeOf5
 v5 := Tryd.zeroValue5
 infoByte := by kernel_rfl
 cellsByte := by kernel_rfl
 sizeByte := by kernel_rfl
 neB5 := by decide }
open Go.RowKit in
theorem Tryd.Builder_String_any (B b : Nat) (l : List UInt8) (w : World) (h : Lib.IsBuilder 109 5 B b (Lib.byteCells l) w) (hBw : B ≤ w.heap.size) :
 Calls Tryd.prog 63 #[.pointer (some ⟨b, 0, none⟩)] w fun e w' => e = .returned (.string ⟨l.toArray⟩) ∧ Below B w w' := Any.Builder_String_any Tryd.lays169 Tryd.Builder_Extra_169 B b l w h hBw
def Tryd.lays230_ren : Go.Shelf.Ren := ⟨fun | 230 => 72 | 197 => 86 | 118 => 87 | 165 => 88 | 166 => 89 | 168 => 90 | 270 => 91 | 167 => 62 | 169 => 63 | 260 => 99 | 240 => 74 | 241 => 100 | 242 => 101 | 276 => 92 | 277 => 103 | 278 => 104 | n => n, fun | 107 => 120 | 9 => 9 | 72 => 109 | 0 => 0 | 4 => 4 | 3 => 3 | 21 => 21 | 105 => 133 | 76 => 137 | 5 => 5 | 75 => 111 | 70 => 107 | 20 => 20 | 37 => 49 | 127 => 123 | 119 => 154 | 46 => 76 | 139 => 157 | 138 => 156 | 164 => 141 | 51 => 117 | 80 => 83 | n => n, fun | 3 => 2 | 4 => 3 | n => n⟩
theorem Tryd.lays230 : Go.Proofs.Lays.n230 Tryd.prog Tryd.lays230_ren := {
 mixed := by kernel_rfl
 f118 := Tryd.func87.trans (congrArg some (by kernel_rfl))
 f165 := Tryd.func88.trans (congrArg some (by kernel_rfl))
 f166 := Tryd.func89.trans (congrArg some (by kernel_rfl))
 f167 := Tryd.func62.trans (congrArg some (by kernel_rfl))
 f168 := Tryd.func90.trans (congrArg some (by kernel_rfl))
 f169 := Tryd.func63.trans (congrArg some (by kernel_rfl))
 f197 := Tryd.func86.trans (congrArg some (by kernel_rfl))
 f230 := Tryd.func72.trans (congrArg some (by kernel_rfl))
 f240 := Tryd.func74.trans (congrArg some (by kernel_rfl))
 f241 := Tryd.func100.trans (congrArg some (by kernel_rfl))
 f242 := Tryd.func101.trans (congrArg some (by kernel_rfl))
 f260 := Tryd.func99.trans (congrArg some (by kernel_rfl))
 f270 := Tryd.func91.trans (congrArg some (by kernel_rfl))
 f276 := Tryd.func92.trans (congrArg some (by kernel_rfl))
 f277 := Tryd.func103.trans (congrArg some (by kernel_rfl))
 f278 := Tryd.func104.trans (congrArg some (by kernel_rfl))
 t0 := Tryd.underlying0
 a0 := Tryd.isAgg0
 z0 := Tryd.sizeOf0
 v0 := Tryd.zeroValue0
 t3 := Tryd.underlying3
 a3 := Tryd.isAgg3
 z3 := Tryd.sizeOf3
 v3 := Tryd.zeroValue3
 t4 := Tryd.underlying4
 a4 := Tryd.isAgg4
 z4 := Tryd.sizeOf4
 v4 := Tryd.zeroValue4
 t5 := Tryd.underlying5
 a5 := Tryd.isAgg5
 z5 := Tryd.sizeOf5
 v5 := Tryd.zeroValue5
 t9 := Tryd.underlying9
 a9 := Tryd.isAgg9
 z9 := Tryd.sizeOf9
 v9 := Tryd.zeroValue9
 t20 := Tryd.underlying20
 a20 := Tryd.isAgg20
 z20 := Tryd.sizeOf20
 v20 := Tryd.zeroValue20
 t21 := Tryd.underlying21
 a21 := Tryd.isAgg21
 z21 := Tryd.sizeOf21
 v21 := Tryd.zeroValue21
 t37 := Tryd.underlying49
 a37 := Tryd.isAgg49
 z37 := Tryd.sizeOf49
 v37 := Tryd.zeroValue49
 t46 := Tryd.underlying76
 a46 := Tryd.isAgg76
 z46 := Tryd.sizeOf76
 v46 := Tryd.zeroValue76
 t51 := Tryd.underlying117
 a51 := Tryd.isAgg117
 z51 := Tryd.sizeOf117
 v51 := Tryd.zeroValue117
 t70 := Tryd.underlying107
 a70 := Tryd.isAgg107
 z70 := Tryd.sizeOf107
 v70 := Tryd.zeroValue107
 t72 := Tryd.underlying109
 a72 := Tryd.isAgg109
 z72 := Tryd.sizeOf109
 v72 := Tryd.zeroValue109
 t75 := Tryd.underlying111
 a75 := Tryd.isAgg111
 z75 := Tryd.sizeOf111
 v75 := Tryd.zeroValue111
 t76 := Tryd.underlying137
 a76 := Tryd.isAgg137
 z76 := Tryd.sizeOf137
 v76 := Tryd.zeroValue137
 t105 := Tryd.underlying133
 a105 := Tryd.isAgg133
 z105 := Tryd.sizeOf133
 v105 := Tryd.zeroValue133
 t107 := Tryd.underlying120
 a107 := Tryd.isAgg120
 z107 := Tryd.sizeOf120
 v107 := Tryd.zeroValue120
 t119 := Tryd.underlying154
 a119 := Tryd.isAgg154
 z119 := Tryd.sizeOf154
 t127 := Tryd.underlying123
 a127 := Tryd.isAgg123
 z127 := Tryd.sizeOf123
 v127 := Tryd.zeroValue123
 t138 := Tryd.underlying156
 a138 := Tryd.isAgg156
 z138 := Tryd.sizeOf156
 v138 := Tryd.zeroValue156
 t139 := Tryd.underlying157
 a139 := Tryd.isAgg157
 z139 := Tryd.sizeOf157
 v139 := Tryd.zeroValue157
 t164 := Tryd.underlying141
 a164 := Tryd.isAgg141
 z164 := Tryd.sizeOf141
 v164 := Tryd.zeroValue141
 g3 := by kernel_rfl
 g4 := by kernel_rfl }
theorem Tryd.Builder_Extra_230 : Builder.Extra Tryd.prog Tryd.lays230_ren := {
 sizeBuilder := by kernel_rfl
 liesBuilder := by kernel_rfl
 t5 := Tryd.underlying5
 a5 := Tryd.isAgg5
 z5 := Tryd.sizeOf5
 v5 := Tryd.zeroValue5
 infoByte := by kernel_rfl
 cellsByte := by kernel_rfl
 sizeByte := by kernel_rfl
 neB5 := by decide }
open Go.RowKit Go.Lib in
theorem Tryd.strings_Map_grows (g : Nat) (lb : Array Value) (eg : ∀ args w, (callFunc g args).run Tryd.prog w = .ok (.enter g args) w) (f : Int → Int) (s : ByteArray) (w : World) (hs : s.size < 35184372088832) (hf : MapGrows Tryd.prog g lb f w) (hnn : ∀ x : Nat, x ≤ 1114111 → -2147483648 ≤ f x ∧ f x ≤ 2147483647) (hT : Lib.Utf8Tabs 2 3 w) :
 Calls Tryd.prog 72 #[.func (.func g) #[] lb, .string s] w fun e w' => e = .returned (.string ⟨(Lib.mapD f s.data.toList).toArray⟩) ∧ Below w.heap.size w w' := Any.strings_Map_grows Tryd.lays230 Tryd.Builder_Extra_230 g lb eg f s w hs hf hnn hT
open Go.RowKit in
theorem Tryd.Builder_WriteByte (B b : Nat) (bs : List Value) (c : Int) (w : World) (h : Lib.IsBuilder 109 5 B b bs w) (hlen : bs.length + 1 ≤ 140737488355328) (hBw : B ≤ w.heap.size) :
 Calls Tryd.prog 62 #[.pointer (some ⟨b, 0, none⟩), .int .u8 c] w fun e w' => e = .returned .nilIface ∧ (Lib.BuilderAt 109 5 B b (.pointer (some ⟨b, 0, none⟩)) (bs ++ [.int .u8 c]) w' ∧ Below B w w') := Any.Builder_WriteByte { Tryd.lays230 with } Tryd.Builder_Extra_230 B b bs c w h hlen hBw
end Go.Proofs
