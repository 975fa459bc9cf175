/- Part of a proof that a law of the given program answers true. -/
import Derived.Test.YtjdjdbkoplmjeaaMCA
import Derived.Shelf.Strings.BuilderK
import Derived.Shelf.Small.Strs
set_option linter.unusedSimpArgs false
set_option linter.unusedVariables false
set_option maxHeartbeats 4000000
namespace Go.Proofs
open Go.Shelf
def Try.layR:Go.Shelf.Ren:=⟨fun|137=>84|166=>65|169=>51|217=>89|240=>74|266=>91|276=>82| _=>0,fun|0=>0|3=>3|4=>4|5=>5|9=>9|20=>20|37=>104|70=>103|72=>106|75=>128|80=>108|127=>132|164=>144| _=>0,fun _=>0⟩
theorem Try.lays166:Lays.n166 Try.prog Try.layR:={
 mixed:=by kernel_rfl
 f166:=Try.func65.trans (congrArg some (by kernel_rfl))
 f240:=Try.func74.trans (congrArg some (by kernel_rfl))
 f276:=Try.func82.trans (congrArg some (by kernel_rfl))
 t0:=Try.underlying0
 a0:=Try.isAgg0
 z0:=Try.sizeOf0
 v0:=Try.zeroValue0
 t3:=Try.underlying3
 a3:=Try.isAgg3
 z3:=Try.sizeOf3
 v3:=Try.zeroValue3
 t4:=Try.underlying4
 a4:=Try.isAgg4
 z4:=Try.sizeOf4
 v4:=Try.zeroValue4
 t9:=Try.underlying9
 a9:=Try.isAgg9
 z9:=Try.sizeOf9
 v9:=Try.zeroValue9
 t20:=Try.underlying20
 a20:=Try.isAgg20
 z20:=Try.sizeOf20
 v20:=Try.zeroValue20
 t37:=Try.underlying104
 a37:=Try.isAgg104
 z37:=Try.sizeOf104
 v37:=Try.zeroValue104
 t70:=Try.underlying103
 a70:=Try.isAgg103
 z70:=Try.sizeOf103
 v70:=Try.zeroValue103
 t72:=Try.underlying106
 a72:=Try.isAgg106
 z72:=Try.sizeOf106
 v72:=Try.zeroValue106
 t75:=Try.underlying128
 a75:=Try.isAgg128
 z75:=Try.sizeOf128
 v75:=Try.zeroValue128
 t164:=Try.underlying144
 a164:=Try.isAgg144
 z164:=Try.sizeOf144
 v164:=Try.zeroValue144
}
theorem Try.lays169:Lays.n169 Try.prog Try.layR:={
 mixed:=by kernel_rfl
 f169:=Try.func51.trans (congrArg some (by kernel_rfl))
 t0:=Try.underlying0
 a0:=Try.isAgg0
 z0:=Try.sizeOf0
 v0:=Try.zeroValue0
 t3:=Try.underlying3
 a3:=Try.isAgg3
 z3:=Try.sizeOf3
 v3:=Try.zeroValue3
 t9:=Try.underlying9
 a9:=Try.isAgg9
 z9:=Try.sizeOf9
 v9:=Try.zeroValue9
 t37:=Try.underlying104
 a37:=Try.isAgg104
 z37:=Try.sizeOf104
 v37:=Try.zeroValue104
 t70:=Try.underlying103
 a70:=Try.isAgg103
 z70:=Try.sizeOf103
 v70:=Try.zeroValue103
 t72:=Try.underlying106
 a72:=Try.isAgg106
 z72:=Try.sizeOf106
 v72:=Try.zeroValue106
 t127:=Try.underlying132
 a127:=Try.isAgg132
 z127:=Try.sizeOf132
 v127:=Try.zeroValue132
}
theorem Try.lays137:Lays.n137 Try.prog Try.layR:={
 mixed:=by kernel_rfl
 f137:=Try.func84.trans (congrArg some (by kernel_rfl))
 f217:=Try.func89.trans (congrArg some (by kernel_rfl))
 f266:=Try.func91.trans (congrArg some (by kernel_rfl))
 t3:=Try.underlying3
 a3:=Try.isAgg3
 z3:=Try.sizeOf3
 v3:=Try.zeroValue3
 t5:=Try.underlying5
 a5:=Try.isAgg5
 z5:=Try.sizeOf5
 v5:=Try.zeroValue5
 t9:=Try.underlying9
 a9:=Try.isAgg9
 z9:=Try.sizeOf9
 v9:=Try.zeroValue9
}
theorem Try.bldX:Builder.Extra Try.prog Try.layR:={
 sizeBuilder:=by kernel_rfl
 liesBuilder:=by kernel_rfl
 t5:=Try.underlying5
 a5:=Try.isAgg5
 z5:=Try.sizeOf5
 v5:=Try.zeroValue5
 infoByte:=by kernel_rfl
 cellsByte:=by kernel_rfl
 sizeByte:=by kernel_rfl
 neB5:=by decide
}
theorem QC (B b:Nat) (bs:List Value) (s:ByteArray) (w:World) (h:Lib.IsBuilderF 106 5 B b bs w) (hlen:bs.length+s.size≤140737488355328) (hBw:B≤w.heap.size):
 Calls Try.prog 65 #[.pointer (some ⟨b,0,none⟩),.string s] w fun e w'=>e=.returned (.tuple #[.int .i64 s.size,.nilIface])∧(Lib.BuilderAtF 106 5 B b (.pointer (some ⟨b,0,none⟩)) (bs++Lib.strCells s) w'∧Go.RowKit.Below B w w'∧Lib.OthersKept 5 (some b) w w'):=
 Any.Builder_WriteString_k Try.lays166 Try.bldX B b bs s w h hlen hBw
theorem qbH (B b:Nat) (l:List UInt8) (w:World) (h:Lib.IsBuilderF 106 5 B b (Lib.byteCells l) w) (hBw:B≤w.heap.size):
 Calls Try.prog 51 #[.pointer (some ⟨b,0,none⟩)] w fun e w'=>e=.returned (.string ⟨l.toArray⟩)∧(Lib.IsBuilderF 106 5 B b (Lib.byteCells l) w'∧Go.RowKit.Below B w w'):=
 Any.Builder_String_any_f Try.lays169 Try.bldX B b l w h hBw
theorem qdv (s:ByteArray) (c:Int) (w:World):
 Calls Try.prog 84 #[.string s,.int .u8 c] w fun e w'=>e=.returned (.int .i64 (Lib.indexByte s.data.toList c.toNat.toUInt8))∧w'=w:=
 Any.strings_IndexByte Try.lays137 s c w
end Go.Proofs
