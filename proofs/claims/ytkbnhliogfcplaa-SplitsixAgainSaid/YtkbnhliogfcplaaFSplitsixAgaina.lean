import Derived.Test.YtkbnhliogfcplaaA20
import Derived.Test.YtkbnhliogfcplaaRows
import Derived.Test.YtkbnhliogfcplaaA24
import Derived.Test.YtkbnhliogfcplaaPSixFr
namespace Go.Proofs.Ytkbnhliogfcplaa
open Go.Abs Go.Pl

set_option maxRecDepth 10000 in
noncomputable def E : Env :=
  Env.mk [none, some (TI.mk (TypeDesc.func (Array.mk []) (Array.mk []) false) 1 8 [AV.nilf] true false [CK.other]), some (TI.mk (TypeDesc.int IntKind.i64) 1 8 [AV.int IntKind.i64 0] true true [CK.int IntKind.i64]), some (TI.mk (TypeDesc.int IntKind.i64) 1 8 [AV.int IntKind.i64 0] true true [CK.int IntKind.i64]), some (TI.mk TypeDesc.bool 1 1 [AV.bool false] true true [CK.bool]), some (TI.mk (TypeDesc.int IntKind.u8) 1 1 [AV.int IntKind.u8 0] true true [CK.int IntKind.u8]), some (TI.mk (TypeDesc.int IntKind.u8) 1 1 [AV.int IntKind.u8 0] true true [CK.int IntKind.u8]), some (TI.mk (TypeDesc.struct (Array.mk [Field.mk "x" 2 0 false "" "runtime" 0, Field.mk "y" 3 1 false "" "runtime" 8, Field.mk "signed" 4 2 false "" "runtime" 16, Field.mk "code" 6 3 false "" "runtime" 17])) 4 24 [AV.int IntKind.i64 0, AV.int IntKind.i64 0, AV.bool false, AV.int IntKind.u8 0] true true [CK.int IntKind.i64, CK.int IntKind.i64, CK.bool, CK.int IntKind.u8]), some (TI.mk (TypeDesc.struct (Array.mk [Field.mk "x" 2 0 false "" "runtime" 0, Field.mk "y" 3 1 false "" "runtime" 8, Field.mk "signed" 4 2 false "" "runtime" 16, Field.mk "code" 6 3 false "" "runtime" 17])) 4 24 [AV.int IntKind.i64 0, AV.int IntKind.i64 0, AV.bool false, AV.int IntKind.u8 0] true true [CK.int IntKind.i64, CK.int IntKind.i64, CK.bool, CK.int IntKind.u8]), some (TI.mk TypeDesc.string 1 16 [AV.str (ByteArray.mk (Array.mk []))] true true [CK.str]), some (TI.mk TypeDesc.string 1 16 [AV.str (ByteArray.mk (Array.mk []))] true true [CK.str]), some (TI.mk TypeDesc.string 1 16 [AV.str (ByteArray.mk (Array.mk []))] true true [CK.str]), some (TI.mk (TypeDesc.int IntKind.u64) 1 8 [AV.int IntKind.u64 0] true true [CK.int IntKind.u64]), some (TI.mk (TypeDesc.struct (Array.mk [Field.mk "msg" 9 0 false "" "runtime" 0, Field.mk "addr" 12 1 false "" "runtime" 16])) 2 24 [AV.str (ByteArray.mk (Array.mk [])), AV.int IntKind.u64 0] false true [CK.str, CK.int IntKind.u64]), some (TI.mk (TypeDesc.struct (Array.mk [Field.mk "msg" 9 0 false "" "runtime" 0, Field.mk "addr" 12 1 false "" "runtime" 16])) 2 24 [AV.str (ByteArray.mk (Array.mk [])), AV.int IntKind.u64 0] false true [CK.str, CK.int IntKind.u64]), some (TI.mk (TypeDesc.pointer 72) 1 8 [AV.nilp] true true [CK.other]), some (TI.mk (TypeDesc.pointer 75) 1 8 [AV.nilp] true true [CK.other]), some (TI.mk (TypeDesc.pointer 84) 1 8 [AV.nilp] true true [CK.other]), some (TI.mk (TypeDesc.struct (Array.mk [Field.mk "typ" 17 0 false "" "internal/runtime/maps" 0])) 1 8 [AV.nilp] false true [CK.other]), some (TI.mk (TypeDesc.struct (Array.mk [Field.mk "typ" 17 0 false "" "internal/runtime/maps" 0])) 1 8 [AV.nilp] false true [CK.other]), some (TI.mk (TypeDesc.interface (Array.mk [])) 1 16 [AV.nili] true true [CK.other]), some (TI.mk (TypeDesc.int IntKind.i32) 1 4 [AV.int IntKind.i32 0] true true [CK.int IntKind.i32]), some (TI.mk (TypeDesc.int IntKind.u32) 1 4 [AV.int IntKind.u32 0] true true [CK.int IntKind.u32]), some (TI.mk (TypeDesc.array 16 5) 16 16 [AV.int IntKind.u8 0, AV.int IntKind.u8 0, AV.int IntKind.u8 0, AV.int IntKind.u8 0, AV.int IntKind.u8 0, AV.int IntKind.u8 0, AV.int IntKind.u8 0, AV.int IntKind.u8 0, AV.int IntKind.u8 0, AV.int IntKind.u8 0, AV.int IntKind.u8 0, AV.int IntKind.u8 0, AV.int IntKind.u8 0, AV.int IntKind.u8 0, AV.int IntKind.u8 0, AV.int IntKind.u8 0] true true [CK.int IntKind.u8, CK.int IntKind.u8, CK.int IntKind.u8, CK.int IntKind.u8, CK.int IntKind.u8, CK.int IntKind.u8, CK.int IntKind.u8, CK.int IntKind.u8, CK.int IntKind.u8, CK.int IntKind.u8, CK.int IntKind.u8, CK.int IntKind.u8, CK.int IntKind.u8, CK.int IntKind.u8, CK.int IntKind.u8, CK.int IntKind.u8]), some (TI.mk (TypeDesc.array 16 5) 16 16 [AV.int IntKind.u8 0, AV.int IntKind.u8 0, AV.int IntKind.u8 0, AV.int IntKind.u8 0, AV.int IntKind.u8 0, AV.int IntKind.u8 0, AV.int IntKind.u8 0, AV.int IntKind.u8 0, AV.int IntKind.u8 0, AV.int IntKind.u8 0, AV.int IntKind.u8 0, AV.int IntKind.u8 0, AV.int IntKind.u8 0, AV.int IntKind.u8 0, AV.int IntKind.u8 0, AV.int IntKind.u8 0] true true [CK.int IntKind.u8, CK.int IntKind.u8, CK.int IntKind.u8, CK.int IntKind.u8, CK.int IntKind.u8, CK.int IntKind.u8, CK.int IntKind.u8, CK.int IntKind.u8, CK.int IntKind.u8, CK.int IntKind.u8, CK.int IntKind.u8, CK.int IntKind.u8, CK.int IntKind.u8, CK.int IntKind.u8, CK.int IntKind.u8, CK.int IntKind.u8]), some (TI.mk (TypeDesc.slice 59) 1 24 [AV.fs 2 [] SF.nil] true false [CK.slice 2]), some (TI.mk (TypeDesc.slice 5) 1 24 [AV.fs 1 [] SF.nil] true false [CK.slice 1]), some (TI.mk (TypeDesc.struct (Array.mk [Field.mk "Class" 5 0 false "" "" 0, Field.mk "Label" 22 1 false "" "" 4, Field.mk "Hop" 5 2 false "" "" 8, Field.mk "Src" 24 3 false "" "" 9, Field.mk "Dst" 24 19 false "" "" 25, Field.mk "Heads" 25 35 false "" "" 48, Field.mk "Frag" 4 36 false "" "" 72, Field.mk "ID" 22 37 false "" "" 76, Field.mk "Off" 3 38 false "" "" 80, Field.mk "More" 4 39 false "" "" 88, Field.mk "Proto" 5 40 false "" "" 89, Field.mk "Body" 26 41 false "" "" 96])) 42 120 [AV.int IntKind.u8 0, AV.int IntKind.u32 0, AV.int IntKind.u8 0, AV.int IntKind.u8 0, AV.int IntKind.u8 0, AV.int IntKind.u8 0, AV.int IntKind.u8 0, AV.int IntKind.u8 0, AV.int IntKind.u8 0, AV.int IntKind.u8 0, AV.int IntKind.u8 0, AV.int IntKind.u8 0, AV.int IntKind.u8 0, AV.int IntKind.u8 0, AV.int IntKind.u8 0, AV.int IntKind.u8 0, AV.int IntKind.u8 0, AV.int IntKind.u8 0, AV.int IntKind.u8 0, AV.int IntKind.u8 0, AV.int IntKind.u8 0, AV.int IntKind.u8 0, AV.int IntKind.u8 0, AV.int IntKind.u8 0, AV.int IntKind.u8 0, AV.int IntKind.u8 0, AV.int IntKind.u8 0, AV.int IntKind.u8 0, AV.int IntKind.u8 0, AV.int IntKind.u8 0, AV.int IntKind.u8 0, AV.int IntKind.u8 0, AV.int IntKind.u8 0, AV.int IntKind.u8 0, AV.int IntKind.u8 0, AV.fs 2 [] SF.nil, AV.bool false, AV.int IntKind.u32 0, AV.int IntKind.i64 0, AV.bool false, AV.int IntKind.u8 0, AV.fs 1 [] SF.nil] true false [CK.int IntKind.u8, CK.int IntKind.u32, CK.int IntKind.u8, CK.int IntKind.u8, CK.int IntKind.u8, CK.int IntKind.u8, CK.int IntKind.u8, CK.int IntKind.u8, CK.int IntKind.u8, CK.int IntKind.u8, CK.int IntKind.u8, CK.int IntKind.u8, CK.int IntKind.u8, CK.int IntKind.u8, CK.int IntKind.u8, CK.int IntKind.u8, CK.int IntKind.u8, CK.int IntKind.u8, CK.int IntKind.u8, CK.int IntKind.u8, CK.int IntKind.u8, CK.int IntKind.u8, CK.int IntKind.u8, CK.int IntKind.u8, CK.int IntKind.u8, CK.int IntKind.u8, CK.int IntKind.u8, CK.int IntKind.u8, CK.int IntKind.u8, CK.int IntKind.u8, CK.int IntKind.u8, CK.int IntKind.u8, CK.int IntKind.u8, CK.int IntKind.u8, CK.int IntKind.u8, CK.slice 2, CK.bool, CK.int IntKind.u32, CK.int IntKind.i64, CK.bool, CK.int IntKind.u8, CK.slice 1]), some (TI.mk (TypeDesc.struct (Array.mk [Field.mk "Class" 5 0 false "" "" 0, Field.mk "Label" 22 1 false "" "" 4, Field.mk "Hop" 5 2 false "" "" 8, Field.mk "Src" 24 3 false "" "" 9, Field.mk "Dst" 24 19 false "" "" 25, Field.mk "Heads" 25 35 false "" "" 48, Field.mk "Frag" 4 36 false "" "" 72, Field.mk "ID" 22 37 false "" "" 76, Field.mk "Off" 3 38 false "" "" 80, Field.mk "More" 4 39 false "" "" 88, Field.mk "Proto" 5 40 false "" "" 89, Field.mk "Body" 26 41 false "" "" 96])) 42 120 [AV.int IntKind.u8 0, AV.int IntKind.u32 0, AV.int IntKind.u8 0, AV.int IntKind.u8 0, AV.int IntKind.u8 0, AV.int IntKind.u8 0, AV.int IntKind.u8 0, AV.int IntKind.u8 0, AV.int IntKind.u8 0, AV.int IntKind.u8 0, AV.int IntKind.u8 0, AV.int IntKind.u8 0, AV.int IntKind.u8 0, AV.int IntKind.u8 0, AV.int IntKind.u8 0, AV.int IntKind.u8 0, AV.int IntKind.u8 0, AV.int IntKind.u8 0, AV.int IntKind.u8 0, AV.int IntKind.u8 0, AV.int IntKind.u8 0, AV.int IntKind.u8 0, AV.int IntKind.u8 0, AV.int IntKind.u8 0, AV.int IntKind.u8 0, AV.int IntKind.u8 0, AV.int IntKind.u8 0, AV.int IntKind.u8 0, AV.int IntKind.u8 0, AV.int IntKind.u8 0, AV.int IntKind.u8 0, AV.int IntKind.u8 0, AV.int IntKind.u8 0, AV.int IntKind.u8 0, AV.int IntKind.u8 0, AV.fs 2 [] SF.nil, AV.bool false, AV.int IntKind.u32 0, AV.int IntKind.i64 0, AV.bool false, AV.int IntKind.u8 0, AV.fs 1 [] SF.nil] true false [CK.int IntKind.u8, CK.int IntKind.u32, CK.int IntKind.u8, CK.int IntKind.u8, CK.int IntKind.u8, CK.int IntKind.u8, CK.int IntKind.u8, CK.int IntKind.u8, CK.int IntKind.u8, CK.int IntKind.u8, CK.int IntKind.u8, CK.int IntKind.u8, CK.int IntKind.u8, CK.int IntKind.u8, CK.int IntKind.u8, CK.int IntKind.u8, CK.int IntKind.u8, CK.int IntKind.u8, CK.int IntKind.u8, CK.int IntKind.u8, CK.int IntKind.u8, CK.int IntKind.u8, CK.int IntKind.u8, CK.int IntKind.u8, CK.int IntKind.u8, CK.int IntKind.u8, CK.int IntKind.u8, CK.int IntKind.u8, CK.int IntKind.u8, CK.int IntKind.u8, CK.int IntKind.u8, CK.int IntKind.u8, CK.int IntKind.u8, CK.int IntKind.u8, CK.int IntKind.u8, CK.slice 2, CK.bool, CK.int IntKind.u32, CK.int IntKind.i64, CK.bool, CK.int IntKind.u8, CK.slice 1]), some (TI.mk (TypeDesc.func (Array.mk []) (Array.mk [4]) false) 1 8 [AV.nilf] true false [CK.other]), some (TI.mk (TypeDesc.slice 28) 1 24 [AV.fs 42 [] SF.nil] true false [CK.slice 42]), some (TI.mk (TypeDesc.int IntKind.i64) 1 8 [AV.int IntKind.i64 0] true true [CK.int IntKind.i64]), none, some (TI.mk (TypeDesc.func (Array.mk [28, 3, 22]) (Array.mk [30, 31]) false) 1 8 [AV.nilf] true false [CK.other]), none, some (TI.mk (TypeDesc.func (Array.mk [28]) (Array.mk [3, 3, 3]) false) 1 8 [AV.nilf] true false [CK.other]), some (TI.mk (TypeDesc.func (Array.mk [28, 28]) (Array.mk [4]) false) 1 8 [AV.nilf] true false [CK.other]), some (TI.mk (TypeDesc.func (Array.mk [28, 3, 22]) (Array.mk [4]) false) 1 8 [AV.nilf] true false [CK.other]), some (TI.mk (TypeDesc.func (Array.mk [28, 3, 3, 22]) (Array.mk [4]) false) 1 8 [AV.nilf] true false [CK.other]), none, some (TI.mk (TypeDesc.func (Array.mk [28, 3]) (Array.mk [3, 31]) false) 1 8 [AV.nilf] true false [CK.other]), none, some (TI.mk (TypeDesc.func (Array.mk [28, 3]) (Array.mk [4, 31]) false) 1 8 [AV.nilf] true false [CK.other]), some (TI.mk (TypeDesc.func (Array.mk [30, 30]) (Array.mk [4]) false) 1 8 [AV.nilf] true false [CK.other]), none, some (TI.mk (TypeDesc.func (Array.mk [28, 22]) (Array.mk [28, 31]) false) 1 8 [AV.nilf] true false [CK.other]), some (TI.mk (TypeDesc.func (Array.mk [28]) (Array.mk [28, 31]) false) 1 8 [AV.nilf] true false [CK.other]), some (TI.mk (TypeDesc.func (Array.mk [28, 22]) (Array.mk [4]) false) 1 8 [AV.nilf] true false [CK.other]), some (TI.mk (TypeDesc.func (Array.mk [49]) (Array.mk []) false) 1 8 [AV.nilf] true false [CK.other]), some (TI.mk (TypeDesc.pointer 31) 1 8 [AV.nilp] true true [CK.other]), some (TI.mk (TypeDesc.func (Array.mk [28, 3]) (Array.mk [4]) false) 1 8 [AV.nilf] true false [CK.other]), some (TI.mk (TypeDesc.func (Array.mk [28]) (Array.mk [28]) false) 1 8 [AV.nilf] true false [CK.other]), none, some (TI.mk (TypeDesc.func (Array.mk [28]) (Array.mk [3, 3, 31]) false) 1 8 [AV.nilf] true false [CK.other]), some (TI.mk (TypeDesc.func (Array.mk [66]) (Array.mk []) false) 1 8 [AV.nilf] true false [CK.other]), some (TI.mk (TypeDesc.func (Array.mk [66]) (Array.mk []) false) 1 8 [AV.nilf] true false [CK.other]), some (TI.mk (TypeDesc.func (Array.mk [3, 3, 3]) (Array.mk [55]) false) 1 8 [AV.nilf] true false [CK.other]), some (TI.mk (TypeDesc.func (Array.mk [28]) (Array.mk [3]) false) 1 8 [AV.nilf] true false [CK.other]), some (TI.mk (TypeDesc.struct (Array.mk [Field.mk "Kind" 5 0 false "" "" 0, Field.mk "Body" 26 1 false "" "" 8])) 2 32 [AV.int IntKind.u8 0, AV.fs 1 [] SF.nil] true false [CK.int IntKind.u8, CK.slice 1]), some (TI.mk (TypeDesc.struct (Array.mk [Field.mk "Kind" 5 0 false "" "" 0, Field.mk "Body" 26 1 false "" "" 8])) 2 32 [AV.int IntKind.u8 0, AV.fs 1 [] SF.nil] true false [CK.int IntKind.u8, CK.slice 1]), some (TI.mk (TypeDesc.func (Array.mk [28]) (Array.mk [31]) false) 1 8 [AV.nilf] true false [CK.other]), some (TI.mk (TypeDesc.func (Array.mk [3]) (Array.mk [4]) false) 1 8 [AV.nilf] true false [CK.other]), some (TI.mk (TypeDesc.func (Array.mk [31]) (Array.mk []) false) 1 8 [AV.nilf] true false [CK.other]), none, some (TI.mk (TypeDesc.func (Array.mk [25]) (Array.mk [25]) false) 1 8 [AV.nilf] true false [CK.other]), some (TI.mk (TypeDesc.func (Array.mk [26]) (Array.mk [26]) false) 1 8 [AV.nilf] true false [CK.other]), some (TI.mk (TypeDesc.func (Array.mk [3, 3]) (Array.mk [4]) false) 1 8 [AV.nilf] true false [CK.other]), some (TI.mk (TypeDesc.func (Array.mk [28]) (Array.mk [4]) false) 1 8 [AV.nilf] true false [CK.other]), some (TI.mk (TypeDesc.func (Array.mk [5]) (Array.mk [4]) false) 1 8 [AV.nilf] true false [CK.other]), some (TI.mk (TypeDesc.int IntKind.u64) 1 8 [AV.int IntKind.u64 0] true true [CK.int IntKind.u64]), some (TI.mk (TypeDesc.func (Array.mk []) (Array.mk [9]) false) 1 8 [AV.nilf] true false [CK.other]), some (TI.mk (TypeDesc.struct (Array.mk [Field.mk "_interface" 17 0 false "" "runtime" 0, Field.mk "concrete" 17 1 false "" "runtime" 8, Field.mk "asserted" 17 2 false "" "runtime" 16, Field.mk "missingMethod" 9 3 false "" "runtime" 24])) 4 40 [AV.nilp, AV.nilp, AV.nilp, AV.str (ByteArray.mk (Array.mk []))] false true [CK.other, CK.other, CK.other, CK.str]), some (TI.mk (TypeDesc.struct (Array.mk [Field.mk "_interface" 17 0 false "" "runtime" 0, Field.mk "concrete" 17 1 false "" "runtime" 8, Field.mk "asserted" 17 2 false "" "runtime" 16, Field.mk "missingMethod" 9 3 false "" "runtime" 24])) 4 40 [AV.nilp, AV.nilp, AV.nilp, AV.str (ByteArray.mk (Array.mk []))] false true [CK.other, CK.other, CK.other, CK.str]), some (TI.mk (TypeDesc.array 0 16) 0 0 [] true true []), some (TI.mk (TypeDesc.struct (Array.mk [Field.mk "_" 73 0 false "" "runtime" 0])) 0 0 [] false true []), some (TI.mk (TypeDesc.struct (Array.mk [Field.mk "_" 73 0 false "" "runtime" 0])) 0 0 [] false true []), some (TI.mk (TypeDesc.func (Array.mk []) (Array.mk [3]) false) 1 8 [AV.nilf] true false [CK.other]), some (TI.mk (TypeDesc.int IntKind.u8) 1 1 [AV.int IntKind.u8 0] true true [CK.int IntKind.u8]), some (TI.mk (TypeDesc.int IntKind.u8) 1 1 [AV.int IntKind.u8 0] true true [CK.int IntKind.u8]), some (TI.mk (TypeDesc.func (Array.mk [85, 85]) (Array.mk [4]) false) 1 8 [AV.nilf] true false [CK.other]), some (TI.mk (TypeDesc.pointer 5) 1 8 [AV.nilp] true true [CK.other]), some (TI.mk (TypeDesc.int IntKind.i32) 1 4 [AV.int IntKind.i32 0] true true [CK.int IntKind.i32]), some (TI.mk (TypeDesc.int IntKind.i32) 1 4 [AV.int IntKind.i32 0] true true [CK.int IntKind.i32]), some (TI.mk (TypeDesc.struct (Array.mk [Field.mk "Size_" 12 0 false "" "" 0, Field.mk "PtrBytes" 12 1 false "" "" 8, Field.mk "Hash" 22 2 false "" "" 16, Field.mk "TFlag" 77 3 false "" "" 20, Field.mk "Align_" 5 4 false "" "" 21, Field.mk "FieldAlign_" 5 5 false "" "" 22, Field.mk "Kind_" 78 6 false "" "" 23, Field.mk "Equal" 79 7 false "" "" 24, Field.mk "GCData" 80 8 false "" "" 32, Field.mk "Str" 81 9 false "" "" 40, Field.mk "PtrToThis" 82 10 false "" "" 44])) 11 48 [AV.int IntKind.u64 0, AV.int IntKind.u64 0, AV.int IntKind.u32 0, AV.int IntKind.u8 0, AV.int IntKind.u8 0, AV.int IntKind.u8 0, AV.int IntKind.u8 0, AV.nilf, AV.nilp, AV.int IntKind.i32 0, AV.int IntKind.i32 0] false false [CK.int IntKind.u64, CK.int IntKind.u64, CK.int IntKind.u32, CK.int IntKind.u8, CK.int IntKind.u8, CK.int IntKind.u8, CK.int IntKind.u8, CK.other, CK.other, CK.int IntKind.i32, CK.int IntKind.i32]), some (TI.mk (TypeDesc.struct (Array.mk [Field.mk "Size_" 12 0 false "" "" 0, Field.mk "PtrBytes" 12 1 false "" "" 8, Field.mk "Hash" 22 2 false "" "" 16, Field.mk "TFlag" 77 3 false "" "" 20, Field.mk "Align_" 5 4 false "" "" 21, Field.mk "FieldAlign_" 5 5 false "" "" 22, Field.mk "Kind_" 78 6 false "" "" 23, Field.mk "Equal" 79 7 false "" "" 24, Field.mk "GCData" 80 8 false "" "" 32, Field.mk "Str" 81 9 false "" "" 40, Field.mk "PtrToThis" 82 10 false "" "" 44])) 11 48 [AV.int IntKind.u64 0, AV.int IntKind.u64 0, AV.int IntKind.u32 0, AV.int IntKind.u8 0, AV.int IntKind.u8 0, AV.int IntKind.u8 0, AV.int IntKind.u8 0, AV.nilf, AV.nilp, AV.int IntKind.i32 0, AV.int IntKind.i32 0] false false [CK.int IntKind.u64, CK.int IntKind.u64, CK.int IntKind.u32, CK.int IntKind.u8, CK.int IntKind.u8, CK.int IntKind.u8, CK.int IntKind.u8, CK.other, CK.other, CK.int IntKind.i32, CK.int IntKind.i32]), some (TI.mk TypeDesc.unsafePointer 1 8 [AV.nilp] true true [CK.other])]
theorem E_ok : EnvOK Try.prog E := (show E = envOf Try.prog by kernel_rfl) ▸ envOf_ok _
theorem E_flds : FieldsOK E := fieldsB_ok (by kernel_rfl)
theorem mixed : Try.prog.follows .mixedOrders = true := by kernel_rfl
/-- ferryman/splitsix.caught -/
noncomputable def T22 : List (FuncId × FSpec) := []
theorem T22_ok : TabOK Try.prog T22 := TabOK.nil _
noncomputable def C22 : Ctx := (ctx E T22 [] [(0, [0, 2]), (1, [0, 2, 7]), (2, [0, 2, 3, 4]), (3, [0, 2, 3, 14]), (4, [0, 3]), (5, [])] [] 19 70)
theorem C22_ok : CtxOK Try.prog C22 := ctx_ok E_ok E_flds mixed T22_ok
noncomputable def S22 : FSpec := inlineK C22 Try.f22
theorem S22_ok : SpecOK Try.prog 22 S22 := inlineK_ok C22_ok Try.func22 (fun _ _ => LoopsOK.none _)
theorem En22 : Enters Try.prog 22 := ⟨_, Try.func22, by decide, rfl⟩
noncomputable def D22 : DSpec := aDBodyK C22 Try.f22
theorem D22_ok : DSpecOK Try.prog 22 D22 := dbodyK_ok C22_ok Try.func22 En22 (fun _ _ _ => LoopsOK.none _)

/-- ferryman/ipv6.ahead -/
noncomputable def T36 : List (FuncId × FSpec) := []
theorem T36_ok : TabOK Try.prog T36 := TabOK.nil _
noncomputable def L36_3 : ATs → AH → KC → Res := fun ts H k => match ts, H with
  | [(1, .ptr 0 0 0), (3, .int .i64 m), (7, .fs 2 gs f), (8, .int .i64 n), (9, .int .i64 i)], [.cells 0 cs] => aIf (i == 0 && m == 40 && v6G cs && rightH gs && decide (gs.length ≤ 8) && hdsB gs && n == (gs.length : Int)) (k (.exit 0) [(1, .ptr 0 0 0), (3, .int .i64 ((40 + headsN gs : Nat) : Int)), (7, .fs 2 gs f), (8, .int .i64 (gs.length : Int)), (9, .int .i64 (gs.length : Int)), (10, .bool false)] [.cells 0 cs]) none
  | _, _ => none
noncomputable def C36 : Ctx := (ctx E T36 [(3, L36_3)] [(0, [1]), (1, [1, 3]), (2, [1, 3, 7, 8, 9]), (3, [1, 3, 7, 8, 9, 10]), (4, [1, 3, 5, 7, 8, 9]), (5, [1, 3, 7, 8, 9]), (6, [1, 3, 7, 8, 9]), (7, [3, 21]), (8, [3]), (9, [2]), (1000003, [1, 3, 7, 8, 9])] [] 25 70)
theorem C36_ok : CtxOK Try.prog C36 := ctx_ok E_ok E_flds mixed T36_ok
theorem C36_l0 : C36.loop (loopId (loopB Try.f36 0)) = some L36_3 := by kernel_rfl
theorem L36_3_in : LoopsOK C36 (loopB Try.f36 0) := LoopsOK.within 0 (by kernel_rfl) (fun j hj S hS => by
  omega)
theorem M36_3a (m : Int) (f : SF) (n i : Int) (gs : List AV) (cl lb hop : Int) (x y : Nat → Int) (hs : List AV) (hf : SF) (fr : Bool) (id off : Int) (mo : Bool) (pr : Int) (bs : List AV) (bf : SF) (k : KC) {c0 : _} (gc0 : c0 = [AO.cells 0 [AV.int IntKind.u8 cl, AV.int IntKind.u32 lb, AV.int IntKind.u8 hop, AV.int IntKind.u8 (x 0), AV.int IntKind.u8 (x 1), AV.int IntKind.u8 (x 2), AV.int IntKind.u8 (x 3), AV.int IntKind.u8 (x 4), AV.int IntKind.u8 (x 5), AV.int IntKind.u8 (x 6), AV.int IntKind.u8 (x 7), AV.int IntKind.u8 (x 8), AV.int IntKind.u8 (x 9), AV.int IntKind.u8 (x 10), AV.int IntKind.u8 (x 11), AV.int IntKind.u8 (x 12), AV.int IntKind.u8 (x 13), AV.int IntKind.u8 (x 14), AV.int IntKind.u8 (x 15), AV.int IntKind.u8 (y 0), AV.int IntKind.u8 (y 1), AV.int IntKind.u8 (y 2), AV.int IntKind.u8 (y 3), AV.int IntKind.u8 (y 4), AV.int IntKind.u8 (y 5), AV.int IntKind.u8 (y 6), AV.int IntKind.u8 (y 7), AV.int IntKind.u8 (y 8), AV.int IntKind.u8 (y 9), AV.int IntKind.u8 (y 10), AV.int IntKind.u8 (y 11), AV.int IntKind.u8 (y 12), AV.int IntKind.u8 (y 13), AV.int IntKind.u8 (y 14), AV.int IntKind.u8 (y 15), AV.fs 2 hs hf, AV.bool fr, AV.int IntKind.u32 id, AV.int IntKind.i64 off, AV.bool mo, AV.int IntKind.u8 pr, AV.fs 1 bs bf]]) :
  headedK C36 (loopB Try.f36 0) [(1, .ptr 0 0 0), (3, .int .i64 m), (7, .fs 2 gs f), (8, .int .i64 n), (9, .int .i64 i)] [.cells 0 [.int .u8 cl, .int .u32 lb, .int .u8 hop, .int .u8 (x 0), .int .u8 (x 1), .int .u8 (x 2), .int .u8 (x 3), .int .u8 (x 4), .int .u8 (x 5), .int .u8 (x 6), .int .u8 (x 7), .int .u8 (x 8), .int .u8 (x 9), .int .u8 (x 10), .int .u8 (x 11), .int .u8 (x 12), .int .u8 (x 13), .int .u8 (x 14), .int .u8 (x 15), .int .u8 (y 0), .int .u8 (y 1), .int .u8 (y 2), .int .u8 (y 3), .int .u8 (y 4), .int .u8 (y 5), .int .u8 (y 6), .int .u8 (y 7), .int .u8 (y 8), .int .u8 (y 9), .int .u8 (y 10), .int .u8 (y 11), .int .u8 (y 12), .int .u8 (y 13), .int .u8 (y 14), .int .u8 (y 15), .fs 2 hs hf, .bool fr, .int .u32 id, .int .i64 off, .bool mo, .int .u8 pr, .fs 1 bs bf]] k =
  aIf (decide (i < n)) (aIf (decide (0 ≤ i)) (aIf (decide (i < (↑gs.length : Int))) (aIf ((gs.getD i.toNat AV.junk).cells.length == 2) (aIf (([(gs.getD i.toNat AV.junk).cells.getD 0 AV.junk, (gs.getD i.toNat AV.junk).cells.getD 1 AV.junk].getD 0 AV.junk).isInt IntKind.u8) (aIf (AV.isFs 1 ([(gs.getD i.toNat AV.junk).cells.getD 0 AV.junk, (gs.getD i.toNat AV.junk).cells.getD 1 AV.junk].getD 1 AV.junk)) (k AExit.normal [(1, AV.ptr 0 0 0), (3, AV.int IntKind.i64 (IntKind.i64.wrap (m + IntKind.i64.wrap (2 + (↑([(gs.getD i.toNat AV.junk).cells.getD 0 AV.junk, (gs.getD i.toNat AV.junk).cells.getD 1 AV.junk].getD 1 AV.junk).toFs.length : Int))))), (7, AV.fs 2 gs f), (8, AV.int IntKind.i64 n), (9, AV.int IntKind.i64 (IntKind.i64.wrap (i + 1)))] c0) none) none) none) none) none) (k (AExit.exit 0) [(1, AV.ptr 0 0 0), (3, AV.int IntKind.i64 m), (7, AV.fs 2 gs f), (8, AV.int IntKind.i64 n), (9, AV.int IntKind.i64 i), (10, AV.bool (decide (i < n)))] c0) := by subst gc0; kernel_rfl
theorem L36_3_ok : LoopSum C36 (loopB Try.f36 0) L36_3 := LoopSum.of C36_ok L36_3_in (fun ts H => by
  unfold L36_3
  split
  · rename_i m gs f n i cs
    rcases Bool.eq_false_or_eq_true (i == 0 && m == 40 && v6G cs && rightH gs && decide (gs.length ≤ 8) && hdsB gs && n == (gs.length : Int)) with hp | hp
    · refine .inr ?_
      simp only [aIf_pos hp]
      simp only [Bool.and_eq_true, beq_iff_eq, decide_eq_true_eq] at hp
      obtain ⟨⟨⟨⟨⟨⟨rfl, rfl⟩, hg⟩, hr⟩, hl⟩, hh⟩, rfl⟩ := hp
      obtain ⟨cl, lb, hop, x, y, hs, hf, fr, id, off, mo, pr, bs, bf, rfl, hok⟩ := v6G_iff.1 hg
      skip
      skip
      skip
      obtain ⟨HR, hHR⟩ : ∃ HR : AH, HR = [.cells 0 (v6L cl lb hop x y hs hf fr id off mo pr bs bf)] := ⟨_, rfl⟩
      have eH : HR = [.cells 0 [.int .u8 cl, .int .u32 lb, .int .u8 hop, .int .u8 (x 0), .int .u8 (x 1), .int .u8 (x 2), .int .u8 (x 3), .int .u8 (x 4), .int .u8 (x 5), .int .u8 (x 6), .int .u8 (x 7), .int .u8 (x 8), .int .u8 (x 9), .int .u8 (x 10), .int .u8 (x 11), .int .u8 (x 12), .int .u8 (x 13), .int .u8 (x 14), .int .u8 (x 15), .int .u8 (y 0), .int .u8 (y 1), .int .u8 (y 2), .int .u8 (y 3), .int .u8 (y 4), .int .u8 (y 5), .int .u8 (y 6), .int .u8 (y 7), .int .u8 (y 8), .int .u8 (y 9), .int .u8 (y 10), .int .u8 (y 11), .int .u8 (y 12), .int .u8 (y 13), .int .u8 (y 14), .int .u8 (y 15), .fs 2 hs hf, .bool fr, .int .u32 id, .int .i64 off, .bool mo, .int .u8 pr, .fs 1 bs bf]] := hHR
      rw [← hHR]
      skip
      skip
      have key : ∀ (j d : Nat), j < gs.length → d ≤ j * 2048 → d + 2 + (bdAt (gs.getD j .junk)).length ≤ (j + 1) * 2048 ∧ ∀ k, headedK C36 (loopB Try.f36 0) [(1, .ptr 0 0 0), (3, .int .i64 ((40 + d : Nat) : Int)), (7, .fs 2 gs f), (8, .int .i64 (gs.length : Int)), (9, .int .i64 (j : Int))] HR k = k .normal [(1, .ptr 0 0 0), (3, .int .i64 ((40 + (d + 2 + (bdAt (gs.getD j .junk)).length) : Nat) : Int)), (7, .fs 2 gs f), (8, .int .i64 (gs.length : Int)), (9, .int .i64 ((j + 1 : Nat) : Int))] HR := by
        intro j d hj hd
        obtain ⟨kk, b, g, e, hb1, hb2, hk0, hk1⟩ := hds_get hh hj
        have hbl := rightH_len hr hj e
        rw [show (bdAt (gs.getD j .junk)).length = b.length by rw [e]; rfl]
        refine ⟨by omega, fun k => ?_⟩
        have ag : ∀ cs, (AV.agg cs).cells = cs := fun _ => rfl
        have ii : ∀ k n, (AV.int k n).isInt k = true := fun k n => by cases k <;> rfl
        have fi : ∀ xs f, (AV.fs 1 xs f).isFs 1 = true := fun _ _ => rfl
        have ft : ∀ xs f, (AV.fs 1 xs f).toFs = xs := fun _ _ => rfl
        have b2 : ∀ a b : AV, (([a, b] : List AV).length == 2) = true := fun _ _ => rfl
        have hn1 : IntKind.i64.wrap ((j : Int) + 1) = ((j + 1 : Nat) : Int) := by rw [i64_of (by omega) (by omega)]; omega
        have hw : IntKind.i64.wrap (((40 + d : Nat) : Int) + IntKind.i64.wrap (2 + (b.length : Int))) = ((40 + (d + 2 + b.length) : Nat) : Int) := by rw [i64_of (n := 2 + (b.length : Int)) (by omega) (by omega), i64_of (by omega) (by omega)]; omega
        have hM := M36_3a ((40 + d : Nat) : Int) f (gs.length : Int) (j : Int) gs cl lb hop x y hs hf fr id off mo pr bs bf k (c0 := HR) eH
        rw [← eH] at hM
        rw [hM]
        simp only [decide_eq_true (show (j : Int) < (gs.length : Int) by omega), decide_eq_true (show (0 : Int) ≤ (j : Int) by omega), Int.toNat_natCast, e, ag, b2, List.getD_cons_zero, List.getD_cons_succ, ii, fi, ft, toInt_int, aIf_true, aIf_false, hn1, List.length_cons, List.length_nil, hw]
        rfl
      obtain ⟨m', hm⟩ := iter_fold (δ := Nat) (N := gs.length) (F := headedK C36 (loopB Try.f36 0)) (ts := fun j d => [(1, .ptr 0 0 0), (3, .int .i64 ((40 + d : Nat) : Int)), (7, .fs 2 gs f), (8, .int .i64 (gs.length : Int)), (9, .int .i64 (j : Int))]) (H := fun _ _ => HR) (f := fun j n => n + 2 + (bdAt (gs.getD j .junk)).length) (I := fun j d => d ≤ j * 2048) (ee := .exit 0) (te := fun d => [(1, .ptr 0 0 0), (3, .int .i64 ((40 + d : Nat) : Int)), (7, .fs 2 gs f), (8, .int .i64 (gs.length : Int)), (9, .int .i64 (gs.length : Int)), (10, .bool false)]) (He := fun _ => HR)
        (fun j d hj hd => key j d hj hd) (fun d hd k => by
          have hM := M36_3a ((40 + d : Nat) : Int) f (gs.length : Int) (gs.length : Int) gs cl lb hop x y hs hf fr id off mo pr bs bf k (c0 := HR) eH
          rw [← eH] at hM
          rw [hM, decide_eq_false (show ¬ (gs.length : Int) < (gs.length : Int) by omega), aIf_false]) (by intro h; cases h) gs.length 0 0 (by omega) (by omega)
      exact ⟨m', fun k => (hm k).symm⟩
    · exact .inl fun k => by rw [aIf_neg hp]
  · exact .inl fun k => rfl)
theorem C36_loops : ∀ c, Try.f36.body = some c → LoopsOK C36 c := LoopsOK.of 1 (by kernel_rfl) (fun j hj S hS => by
  match j, hj with
  | 0, _ => rw [C36_l0] at hS; cases hS; exact L36_3_ok
  | n + 1, hj => omega)
noncomputable def B36 : FSpec := inlineK C36 Try.f36
noncomputable def S36 : FSpec := fun args H k => match args, H with
  | [.agg cs], [] => aIf (v6G cs && (rightH (cs.getD 35 .junk).toFs && decide ((cs.getD 35 .junk).toFs.length ≤ 8))) (k (.ret (.int .i64 (ahd6 (cs.getD 35 .junk).toFs (cs.getD 36 .junk).toBool : Int))) []) none
  | _, _ => none
theorem B36_ok : SpecOK Try.prog 36 B36 := inlineK_ok C36_ok Try.func36 C36_loops
theorem N36 (cl lb hop : Int) (x y : Nat → Int) (hs : List AV) (hf : SF) (fr : Bool) (id off : Int) (mo : Bool) (pr : Int) (bs : List AV) (bf : SF)  (k : KE) : B36 [.agg [.int .u8 cl, .int .u32 lb, .int .u8 hop, .int .u8 (x 0), .int .u8 (x 1), .int .u8 (x 2), .int .u8 (x 3), .int .u8 (x 4), .int .u8 (x 5), .int .u8 (x 6), .int .u8 (x 7), .int .u8 (x 8), .int .u8 (x 9), .int .u8 (x 10), .int .u8 (x 11), .int .u8 (x 12), .int .u8 (x 13), .int .u8 (x 14), .int .u8 (x 15), .int .u8 (y 0), .int .u8 (y 1), .int .u8 (y 2), .int .u8 (y 3), .int .u8 (y 4), .int .u8 (y 5), .int .u8 (y 6), .int .u8 (y 7), .int .u8 (y 8), .int .u8 (y 9), .int .u8 (y 10), .int .u8 (y 11), .int .u8 (y 12), .int .u8 (y 13), .int .u8 (y 14), .int .u8 (y 15), .fs 2 hs hf, .bool fr, .int .u32 id, .int .i64 off, .bool mo, .int .u8 pr, .fs 1 bs bf]] [] k =
  aIf (true && Pl.v6G [AV.int IntKind.u8 cl, AV.int IntKind.u32 lb, AV.int IntKind.u8 hop, AV.int IntKind.u8 (x 0), AV.int IntKind.u8 (x 1), AV.int IntKind.u8 (x 2), AV.int IntKind.u8 (x 3), AV.int IntKind.u8 (x 4), AV.int IntKind.u8 (x 5), AV.int IntKind.u8 (x 6), AV.int IntKind.u8 (x 7), AV.int IntKind.u8 (x 8), AV.int IntKind.u8 (x 9), AV.int IntKind.u8 (x 10), AV.int IntKind.u8 (x 11), AV.int IntKind.u8 (x 12), AV.int IntKind.u8 (x 13), AV.int IntKind.u8 (x 14), AV.int IntKind.u8 (x 15), AV.int IntKind.u8 (y 0), AV.int IntKind.u8 (y 1), AV.int IntKind.u8 (y 2), AV.int IntKind.u8 (y 3), AV.int IntKind.u8 (y 4), AV.int IntKind.u8 (y 5), AV.int IntKind.u8 (y 6), AV.int IntKind.u8 (y 7), AV.int IntKind.u8 (y 8), AV.int IntKind.u8 (y 9), AV.int IntKind.u8 (y 10), AV.int IntKind.u8 (y 11), AV.int IntKind.u8 (y 12), AV.int IntKind.u8 (y 13), AV.int IntKind.u8 (y 14), AV.int IntKind.u8 (y 15), AV.fs 2 hs hf, AV.bool fr, AV.int IntKind.u32 id, AV.int IntKind.i64 off, AV.bool mo, AV.int IntKind.u8 pr, AV.fs 1 bs bf] && Pl.rightH hs && decide (hs.length ≤ 8) && Pl.hdsB hs && (↑hs.length : Int) == (↑hs.length : Int)) (aIf fr (k (AEnd.ret (AV.int IntKind.i64 (IntKind.i64.wrap ((↑(40 + Pl.headsN hs) : Int) + 8)))) []) (k (AEnd.ret (AV.int IntKind.i64 (↑(40 + Pl.headsN hs) : Int))) [])) none := by kernel_rfl
theorem S36_ok : SpecOK Try.prog 36 S36 := by
  refine B36_ok.turn fun args H => ?_
  unfold S36
  split
  · rename_i cs 
    rcases Bool.eq_false_or_eq_true (v6G cs && (rightH (cs.getD 35 .junk).toFs && decide ((cs.getD 35 .junk).toFs.length ≤ 8))) with hp | hp
    · refine .inr fun k => ?_
      rw [aIf_pos hp]
      rw [Bool.and_eq_true] at hp
      obtain ⟨hp, hm⟩ := hp
      obtain ⟨cl, lb, hop, x, y, hs, hf, fr, id, off, mo, pr, bs, bf, rfl, hok⟩ := v6G_iff.1 hp
      have hok' := hok
      replace hp : v6G [.int .u8 cl, .int .u32 lb, .int .u8 hop, .int .u8 (x 0), .int .u8 (x 1), .int .u8 (x 2), .int .u8 (x 3), .int .u8 (x 4), .int .u8 (x 5), .int .u8 (x 6), .int .u8 (x 7), .int .u8 (x 8), .int .u8 (x 9), .int .u8 (x 10), .int .u8 (x 11), .int .u8 (x 12), .int .u8 (x 13), .int .u8 (x 14), .int .u8 (x 15), .int .u8 (y 0), .int .u8 (y 1), .int .u8 (y 2), .int .u8 (y 3), .int .u8 (y 4), .int .u8 (y 5), .int .u8 (y 6), .int .u8 (y 7), .int .u8 (y 8), .int .u8 (y 9), .int .u8 (y 10), .int .u8 (y 11), .int .u8 (y 12), .int .u8 (y 13), .int .u8 (y 14), .int .u8 (y 15), .fs 2 hs hf, .bool fr, .int .u32 id, .int .i64 off, .bool mo, .int .u8 pr, .fs 1 bs bf] = true := hp
      obtain ⟨hh, hhf, hb, hbf, l0, l1, o0, o1, p0, p1, i0, i1⟩ := v6Ok_iff.1 hok'
      show k (.ret ((.int .i64 (ahd6 hs fr : Int)))) [] = B36 [.agg [.int .u8 cl, .int .u32 lb, .int .u8 hop, .int .u8 (x 0), .int .u8 (x 1), .int .u8 (x 2), .int .u8 (x 3), .int .u8 (x 4), .int .u8 (x 5), .int .u8 (x 6), .int .u8 (x 7), .int .u8 (x 8), .int .u8 (x 9), .int .u8 (x 10), .int .u8 (x 11), .int .u8 (x 12), .int .u8 (x 13), .int .u8 (x 14), .int .u8 (x 15), .int .u8 (y 0), .int .u8 (y 1), .int .u8 (y 2), .int .u8 (y 3), .int .u8 (y 4), .int .u8 (y 5), .int .u8 (y 6), .int .u8 (y 7), .int .u8 (y 8), .int .u8 (y 9), .int .u8 (y 10), .int .u8 (y 11), .int .u8 (y 12), .int .u8 (y 13), .int .u8 (y 14), .int .u8 (y 15), .fs 2 hs hf, .bool fr, .int .u32 id, .int .i64 off, .bool mo, .int .u8 pr, .fs 1 bs bf]] [] k
      rw [N36]
      replace hm : (rightH hs && decide (hs.length ≤ 8)) = true := hm
      rw [Bool.and_eq_true, decide_eq_true_eq] at hm
      have hr := hm.1
      have hl := hm.2
      have hd8 := decide_eq_true hl
      have hn := headsN_le hh hr hl
      simp only [hp, hr, hh, hd8, Bool.true_and, Bool.and_true, beq_self_eq_true, aIf_true]
      rw [i64_of (n := ((40 + headsN hs : Nat) : Int) + 8) (by omega) (by omega)]
      cases fr <;> rfl
    · exact .inl fun k => by rw [aIf_neg hp]
  · exact .inl fun k => rfl
theorem En36 : Enters Try.prog 36 := ⟨_, Try.func36, by decide, rfl⟩

/-- ferryman/ipv6.extra -/
noncomputable def T41 : List (FuncId × FSpec) := []
theorem T41_ok : TabOK Try.prog T41 := TabOK.nil _
noncomputable def C41 : Ctx := (ctx E T41 [] [(0, [0]), (1, [2])] [] 13 70)
theorem C41_ok : CtxOK Try.prog C41 := ctx_ok E_ok E_flds mixed T41_ok
noncomputable def B41 : FSpec := inlineK C41 Try.f41
noncomputable def S41 : FSpec := fun args H k => match args, H with
  | [.int .u8 n], [] => aIf (true) (k (.ret (.bool (exB n))) []) none
  | _, _ => none
theorem B41_ok : SpecOK Try.prog 41 B41 := inlineK_ok C41_ok Try.func41 (fun _ _ => LoopsOK.none _)
theorem N41 (n : Int) (k : KE) : B41 [.int .u8 n] [] k =
  aIf (n == 0) (k (AEnd.ret (AV.bool true)) []) (aIf (n == 43) (k (AEnd.ret (AV.bool true)) []) (k (AEnd.ret (AV.bool (n == 60))) [])) := by kernel_rfl
theorem S41_ok : SpecOK Try.prog 41 S41 := by
  refine B41_ok.turn fun args H => ?_
  unfold S41
  split
  · rename_i n
    rcases Bool.eq_false_or_eq_true (true) with hp | hp
    · refine .inr fun k => ?_
      rw [aIf_pos hp, N41]
      exact (exB_if n k).symm
    · exact .inl fun k => by rw [aIf_neg hp]
  · exact .inl fun k => rfl
theorem En41 : Enters Try.prog 41 := ⟨_, Try.func41, by decide, rfl⟩

/-- ferryman/ipv6.right -/
noncomputable def T39 : List (FuncId × FSpec) := [(41, S41)]
theorem T39_ok : TabOK Try.prog T39 := TabOK.cons En41 S41_ok (TabOK.nil _)
noncomputable def L39_4 : ATs → AH → KC → Res := fun ts H k => match ts, H with
  | [(1, .ptr 0 0 0), (16, .fs 2 gs f), (17, .int .i64 n), (18, .int .i64 i)], [.cells 0 cs] => aIf (i == 0 && v6G cs && decide (gs.length ≤ 8) && hdsB gs && n == (gs.length : Int)) (aIf (rightH gs) (k (.exit 0) [(1, .ptr 0 0 0), (16, .fs 2 gs f), (17, .int .i64 n), (18, .int .i64 n), (19, .bool false)] [.cells 0 cs]) (k .ret [(2, .bool false)] [.cells 0 cs])) none
  | _, _ => none
noncomputable def C39 : Ctx := (ctx E T39 [(4, L39_4)] [(0, [1]), (1, [1, 14]), (2, [2]), (3, [1, 16, 17, 18]), (4, [1, 16, 17, 18, 19]), (5, [1, 3, 4, 16, 17, 18]), (6, [1, 16, 17, 18, 48]), (7, [2]), (8, [1, 16, 17, 18]), (9, [1, 51]), (10, [2]), (11, [2]), (1000004, [1, 16, 17, 18])] [] 84 70)
theorem C39_ok : CtxOK Try.prog C39 := ctx_ok E_ok E_flds mixed T39_ok
theorem C39_l0 : C39.loop (loopId (loopB Try.f39 0)) = some L39_4 := by kernel_rfl
theorem L39_4_in : LoopsOK C39 (loopB Try.f39 0) := LoopsOK.within 0 (by kernel_rfl) (fun j hj S hS => by
  omega)
theorem M39_4a (f : SF) (n i : Int) (gs : List AV) (cl lb hop : Int) (x y : Nat → Int) (hs : List AV) (hf : SF) (fr : Bool) (id off : Int) (mo : Bool) (pr : Int) (bs : List AV) (bf : SF) (k : KC) {c1 : _} (gc1 : c1 = [(gs.getD i.toNat AV.junk).cells.getD 0 AV.junk, (gs.getD i.toNat AV.junk).cells.getD 1 AV.junk]) {c0 : _} (gc0 : c0 = [AO.cells 0 [AV.int IntKind.u8 cl, AV.int IntKind.u32 lb, AV.int IntKind.u8 hop, AV.int IntKind.u8 (x 0), AV.int IntKind.u8 (x 1), AV.int IntKind.u8 (x 2), AV.int IntKind.u8 (x 3), AV.int IntKind.u8 (x 4), AV.int IntKind.u8 (x 5), AV.int IntKind.u8 (x 6), AV.int IntKind.u8 (x 7), AV.int IntKind.u8 (x 8), AV.int IntKind.u8 (x 9), AV.int IntKind.u8 (x 10), AV.int IntKind.u8 (x 11), AV.int IntKind.u8 (x 12), AV.int IntKind.u8 (x 13), AV.int IntKind.u8 (x 14), AV.int IntKind.u8 (x 15), AV.int IntKind.u8 (y 0), AV.int IntKind.u8 (y 1), AV.int IntKind.u8 (y 2), AV.int IntKind.u8 (y 3), AV.int IntKind.u8 (y 4), AV.int IntKind.u8 (y 5), AV.int IntKind.u8 (y 6), AV.int IntKind.u8 (y 7), AV.int IntKind.u8 (y 8), AV.int IntKind.u8 (y 9), AV.int IntKind.u8 (y 10), AV.int IntKind.u8 (y 11), AV.int IntKind.u8 (y 12), AV.int IntKind.u8 (y 13), AV.int IntKind.u8 (y 14), AV.int IntKind.u8 (y 15), AV.fs 2 hs hf, AV.bool fr, AV.int IntKind.u32 id, AV.int IntKind.i64 off, AV.bool mo, AV.int IntKind.u8 pr, AV.fs 1 bs bf]]) :
  headedK C39 (loopB Try.f39 0) [(1, .ptr 0 0 0), (16, .fs 2 gs f), (17, .int .i64 n), (18, .int .i64 i)] [.cells 0 [.int .u8 cl, .int .u32 lb, .int .u8 hop, .int .u8 (x 0), .int .u8 (x 1), .int .u8 (x 2), .int .u8 (x 3), .int .u8 (x 4), .int .u8 (x 5), .int .u8 (x 6), .int .u8 (x 7), .int .u8 (x 8), .int .u8 (x 9), .int .u8 (x 10), .int .u8 (x 11), .int .u8 (x 12), .int .u8 (x 13), .int .u8 (x 14), .int .u8 (x 15), .int .u8 (y 0), .int .u8 (y 1), .int .u8 (y 2), .int .u8 (y 3), .int .u8 (y 4), .int .u8 (y 5), .int .u8 (y 6), .int .u8 (y 7), .int .u8 (y 8), .int .u8 (y 9), .int .u8 (y 10), .int .u8 (y 11), .int .u8 (y 12), .int .u8 (y 13), .int .u8 (y 14), .int .u8 (y 15), .fs 2 hs hf, .bool fr, .int .u32 id, .int .i64 off, .bool mo, .int .u8 pr, .fs 1 bs bf]] k =
  aIf (decide (i < n)) (aIf (decide (0 ≤ i)) (aIf (decide (i < (↑gs.length : Int))) (aIf ((gs.getD i.toNat AV.junk).cells.length == 2) (aIf ((c1.getD 0 AV.junk).isInt IntKind.u8) (aIf (AV.isFs 1 (c1.getD 1 AV.junk)) (aIf (!Pl.exB (c1.getD 0 AV.junk).toInt) (k AExit.ret [(2, AV.bool false)] c0) (aIf ((c1.getD 0 AV.junk).toInt == 0) (aIf (decide (i > 0)) (k AExit.ret [(2, AV.bool false)] c0) (aIf ((↑(c1.getD 1 AV.junk).toFs.length : Int).tmod 8 != 6) (k AExit.ret [(2, AV.bool false)] c0) (aIf (decide ((↑(c1.getD 1 AV.junk).toFs.length : Int) > 2046)) (k AExit.ret [(2, AV.bool false)] c0) (k AExit.normal [(1, AV.ptr 0 0 0), (16, AV.fs 2 gs f), (17, AV.int IntKind.i64 n), (18, AV.int IntKind.i64 (IntKind.i64.wrap (i + 1)))] c0)))) (aIf ((↑(c1.getD 1 AV.junk).toFs.length : Int).tmod 8 != 6) (k AExit.ret [(2, AV.bool false)] c0) (aIf (decide ((↑(c1.getD 1 AV.junk).toFs.length : Int) > 2046)) (k AExit.ret [(2, AV.bool false)] c0) (k AExit.normal [(1, AV.ptr 0 0 0), (16, AV.fs 2 gs f), (17, AV.int IntKind.i64 n), (18, AV.int IntKind.i64 (IntKind.i64.wrap (i + 1)))] c0))))) none) none) none) none) none) (k (AExit.exit 0) [(1, AV.ptr 0 0 0), (16, AV.fs 2 gs f), (17, AV.int IntKind.i64 n), (18, AV.int IntKind.i64 i), (19, AV.bool (decide (i < n)))] c0) := by subst gc0 gc1; kernel_rfl
theorem L39_4_ok : LoopSum C39 (loopB Try.f39 0) L39_4 := LoopSum.of C39_ok L39_4_in (fun ts H => by
  unfold L39_4
  split
  · rename_i gs f n i cs
    rcases Bool.eq_false_or_eq_true (i == 0 && v6G cs && decide (gs.length ≤ 8) && hdsB gs && n == (gs.length : Int)) with hp | hp
    · refine .inr ?_
      simp only [aIf_pos hp]
      simp only [Bool.and_eq_true, beq_iff_eq, decide_eq_true_eq] at hp
      obtain ⟨⟨⟨⟨rfl, hg⟩, hl⟩, hh⟩, rfl⟩ := hp
      obtain ⟨cl, lb, hop, x, y, hs, hf, fr, id, off, mo, pr, bs, bf, rfl, hok⟩ := v6G_iff.1 hg
      skip
      skip
      obtain ⟨HR, hHR⟩ : ∃ HR : AH, HR = [.cells 0 (v6L cl lb hop x y hs hf fr id off mo pr bs bf)] := ⟨_, rfl⟩
      have eH : HR = [.cells 0 [.int .u8 cl, .int .u32 lb, .int .u8 hop, .int .u8 (x 0), .int .u8 (x 1), .int .u8 (x 2), .int .u8 (x 3), .int .u8 (x 4), .int .u8 (x 5), .int .u8 (x 6), .int .u8 (x 7), .int .u8 (x 8), .int .u8 (x 9), .int .u8 (x 10), .int .u8 (x 11), .int .u8 (x 12), .int .u8 (x 13), .int .u8 (x 14), .int .u8 (x 15), .int .u8 (y 0), .int .u8 (y 1), .int .u8 (y 2), .int .u8 (y 3), .int .u8 (y 4), .int .u8 (y 5), .int .u8 (y 6), .int .u8 (y 7), .int .u8 (y 8), .int .u8 (y 9), .int .u8 (y 10), .int .u8 (y 11), .int .u8 (y 12), .int .u8 (y 13), .int .u8 (y 14), .int .u8 (y 15), .fs 2 hs hf, .bool fr, .int .u32 id, .int .i64 off, .bool mo, .int .u8 pr, .fs 1 bs bf]] := hHR
      rw [← hHR]
      skip
      skip
      have key : ∀ j : Nat, j < gs.length → ∀ k, headedK C39 (loopB Try.f39 0) [(1, .ptr 0 0 0), (16, .fs 2 gs f), (17, .int .i64 (gs.length : Int)), (18, .int .i64 (j : Int))] HR k = aIf (badH gs j) (k .ret [(2, .bool false)] HR) (k .normal [(1, .ptr 0 0 0), (16, .fs 2 gs f), (17, .int .i64 (gs.length : Int)), (18, .int .i64 ((j + 1 : Nat) : Int))] HR) := by
        intro j hj k
        obtain ⟨kk, b, g, e, hb1, hb2, hk0, hk1⟩ := hds_get hh hj
        have ag : ∀ cs, (AV.agg cs).cells = cs := fun _ => rfl
        have ii : ∀ k n, (AV.int k n).isInt k = true := fun k n => by cases k <;> rfl
        have fi : ∀ xs f, (AV.fs 1 xs f).isFs 1 = true := fun _ _ => rfl
        have ft : ∀ xs f, (AV.fs 1 xs f).toFs = xs := fun _ _ => rfl
        have b2 : ∀ a b : AV, (([a, b] : List AV).length == 2) = true := fun _ _ => rfl
        have hn1 : IntKind.i64.wrap ((j : Int) + 1) = ((j + 1 : Nat) : Int) := by rw [i64_of (by omega) (by omega)]; omega
        have hM := M39_4a f (gs.length : Int) (j : Int) gs cl lb hop x y hs hf fr id off mo pr bs bf k (c1 := [.int .u8 kk, .fs 1 b g]) (by rw [Int.toNat_natCast, e]; rfl) (c0 := HR) eH
        rw [← eH] at hM
        rw [hM]
        simp only [decide_eq_true (show (j : Int) < (gs.length : Int) by omega), decide_eq_true (show (0 : Int) ≤ (j : Int) by omega), Int.toNat_natCast, e, ag, b2, List.getD_cons_zero, List.getD_cons_succ, ii, fi, ft, toInt_int, aIf_true, aIf_false, hn1]
        exact badH_if e _ _
      refine (iter_scan (N := gs.length) (F := headedK C39 (loopB Try.f39 0)) (ts := fun j => [(1, .ptr 0 0 0), (16, .fs 2 gs f), (17, .int .i64 (gs.length : Int)), (18, .int .i64 (j : Int))]) (H := HR) (b := badH gs) (eb := .ret) (ee := .exit 0) (tb := [(2, .bool false)]) (te := [(1, .ptr 0 0 0), (16, .fs 2 gs f), (17, .int .i64 (gs.length : Int)), (18, .int .i64 (gs.length : Int)), (19, .bool false)]) (Hb := HR) (He := HR)
        (fun j hj hb k => (key j hj k).trans (aIf_pos hb)) (fun j hj hb k => (key j hj k).trans (aIf_neg hb)) (fun k => ?_) (by intro h; cases h) (by intro h; cases h) gs.length 0 (by omega)).imp fun m hm k => (hm k).symm
      have hM := M39_4a f (gs.length : Int) (gs.length : Int) gs cl lb hop x y hs hf fr id off mo pr bs bf k (c1 := _) rfl (c0 := HR) eH
      rw [← eH] at hM
      rw [hM, decide_eq_false (show ¬ (gs.length : Int) < (gs.length : Int) by omega), aIf_false]
    · exact .inl fun k => by rw [aIf_neg hp]
  · exact .inl fun k => rfl)
theorem C39_loops : ∀ c, Try.f39.body = some c → LoopsOK C39 c := LoopsOK.of 1 (by kernel_rfl) (fun j hj S hS => by
  match j, hj with
  | 0, _ => rw [C39_l0] at hS; cases hS; exact L39_4_ok
  | n + 1, hj => omega)
noncomputable def B39 : FSpec := inlineK C39 Try.f39
noncomputable def S39 : FSpec := fun args H k => match args, H with
  | [.agg cs], [] => aIf (v6G cs) (k (.ret (.bool (right6 (cs.getD 1 .junk).toInt (cs.getD 35 .junk).toFs (cs.getD 36 .junk).toBool (cs.getD 37 .junk).toInt (cs.getD 38 .junk).toInt (cs.getD 39 .junk).toBool (cs.getD 40 .junk).toInt))) []) none
  | _, _ => none
theorem B39_ok : SpecOK Try.prog 39 B39 := inlineK_ok C39_ok Try.func39 C39_loops
theorem N39 (cl lb hop : Int) (x y : Nat → Int) (hs : List AV) (hf : SF) (fr : Bool) (id off : Int) (mo : Bool) (pr : Int) (bs : List AV) (bf : SF)  (k : KE) : B39 [.agg [.int .u8 cl, .int .u32 lb, .int .u8 hop, .int .u8 (x 0), .int .u8 (x 1), .int .u8 (x 2), .int .u8 (x 3), .int .u8 (x 4), .int .u8 (x 5), .int .u8 (x 6), .int .u8 (x 7), .int .u8 (x 8), .int .u8 (x 9), .int .u8 (x 10), .int .u8 (x 11), .int .u8 (x 12), .int .u8 (x 13), .int .u8 (x 14), .int .u8 (x 15), .int .u8 (y 0), .int .u8 (y 1), .int .u8 (y 2), .int .u8 (y 3), .int .u8 (y 4), .int .u8 (y 5), .int .u8 (y 6), .int .u8 (y 7), .int .u8 (y 8), .int .u8 (y 9), .int .u8 (y 10), .int .u8 (y 11), .int .u8 (y 12), .int .u8 (y 13), .int .u8 (y 14), .int .u8 (y 15), .fs 2 hs hf, .bool fr, .int .u32 id, .int .i64 off, .bool mo, .int .u8 pr, .fs 1 bs bf]] [] k =
  aIf (lb.fdiv 1048576 != 0) (k (AEnd.ret (AV.bool false)) []) (aIf (decide ((↑hs.length : Int) > 8)) (k (AEnd.ret (AV.bool false)) []) (aIf (true && Pl.v6G [AV.int IntKind.u8 cl, AV.int IntKind.u32 lb, AV.int IntKind.u8 hop, AV.int IntKind.u8 (x 0), AV.int IntKind.u8 (x 1), AV.int IntKind.u8 (x 2), AV.int IntKind.u8 (x 3), AV.int IntKind.u8 (x 4), AV.int IntKind.u8 (x 5), AV.int IntKind.u8 (x 6), AV.int IntKind.u8 (x 7), AV.int IntKind.u8 (x 8), AV.int IntKind.u8 (x 9), AV.int IntKind.u8 (x 10), AV.int IntKind.u8 (x 11), AV.int IntKind.u8 (x 12), AV.int IntKind.u8 (x 13), AV.int IntKind.u8 (x 14), AV.int IntKind.u8 (x 15), AV.int IntKind.u8 (y 0), AV.int IntKind.u8 (y 1), AV.int IntKind.u8 (y 2), AV.int IntKind.u8 (y 3), AV.int IntKind.u8 (y 4), AV.int IntKind.u8 (y 5), AV.int IntKind.u8 (y 6), AV.int IntKind.u8 (y 7), AV.int IntKind.u8 (y 8), AV.int IntKind.u8 (y 9), AV.int IntKind.u8 (y 10), AV.int IntKind.u8 (y 11), AV.int IntKind.u8 (y 12), AV.int IntKind.u8 (y 13), AV.int IntKind.u8 (y 14), AV.int IntKind.u8 (y 15), AV.fs 2 hs hf, AV.bool fr, AV.int IntKind.u32 id, AV.int IntKind.i64 off, AV.bool mo, AV.int IntKind.u8 pr, AV.fs 1 bs bf] && decide (hs.length ≤ 8) && Pl.hdsB hs && (↑hs.length : Int) == (↑hs.length : Int)) (aIf (Pl.rightH hs) (aIf fr (aIf (decide (off ≥ 0)) (k (AEnd.ret (AV.bool (decide (off ≤ 8191)))) []) (k (AEnd.ret (AV.bool false)) [])) (aIf (id == 0) (aIf (off == 0) (aIf (!mo) (aIf (!Pl.exB pr) (k (AEnd.ret (AV.bool (pr != 44))) []) (k (AEnd.ret (AV.bool false)) [])) (k (AEnd.ret (AV.bool false)) [])) (k (AEnd.ret (AV.bool false)) [])) (k (AEnd.ret (AV.bool false)) []))) (k (AEnd.ret (AV.bool false)) [])) none)) := by kernel_rfl
theorem S39_ok : SpecOK Try.prog 39 S39 := by
  refine B39_ok.turn fun args H => ?_
  unfold S39
  split
  · rename_i cs 
    rcases Bool.eq_false_or_eq_true (v6G cs) with hp | hp
    · refine .inr fun k => ?_
      rw [aIf_pos hp]
      skip
      skip
      obtain ⟨cl, lb, hop, x, y, hs, hf, fr, id, off, mo, pr, bs, bf, rfl, hok⟩ := v6G_iff.1 hp
      have hok' := hok
      replace hp : v6G [.int .u8 cl, .int .u32 lb, .int .u8 hop, .int .u8 (x 0), .int .u8 (x 1), .int .u8 (x 2), .int .u8 (x 3), .int .u8 (x 4), .int .u8 (x 5), .int .u8 (x 6), .int .u8 (x 7), .int .u8 (x 8), .int .u8 (x 9), .int .u8 (x 10), .int .u8 (x 11), .int .u8 (x 12), .int .u8 (x 13), .int .u8 (x 14), .int .u8 (x 15), .int .u8 (y 0), .int .u8 (y 1), .int .u8 (y 2), .int .u8 (y 3), .int .u8 (y 4), .int .u8 (y 5), .int .u8 (y 6), .int .u8 (y 7), .int .u8 (y 8), .int .u8 (y 9), .int .u8 (y 10), .int .u8 (y 11), .int .u8 (y 12), .int .u8 (y 13), .int .u8 (y 14), .int .u8 (y 15), .fs 2 hs hf, .bool fr, .int .u32 id, .int .i64 off, .bool mo, .int .u8 pr, .fs 1 bs bf] = true := hp
      obtain ⟨hh, hhf, hb, hbf, l0, l1, o0, o1, p0, p1, i0, i1⟩ := v6Ok_iff.1 hok'
      show k (.ret (.bool (right6 lb hs fr id off mo pr))) [] = B39 [.agg [.int .u8 cl, .int .u32 lb, .int .u8 hop, .int .u8 (x 0), .int .u8 (x 1), .int .u8 (x 2), .int .u8 (x 3), .int .u8 (x 4), .int .u8 (x 5), .int .u8 (x 6), .int .u8 (x 7), .int .u8 (x 8), .int .u8 (x 9), .int .u8 (x 10), .int .u8 (x 11), .int .u8 (x 12), .int .u8 (x 13), .int .u8 (x 14), .int .u8 (x 15), .int .u8 (y 0), .int .u8 (y 1), .int .u8 (y 2), .int .u8 (y 3), .int .u8 (y 4), .int .u8 (y 5), .int .u8 (y 6), .int .u8 (y 7), .int .u8 (y 8), .int .u8 (y 9), .int .u8 (y 10), .int .u8 (y 11), .int .u8 (y 12), .int .u8 (y 13), .int .u8 (y 14), .int .u8 (y 15), .fs 2 hs hf, .bool fr, .int .u32 id, .int .i64 off, .bool mo, .int .u8 pr, .fs 1 bs bf]] [] k
      rw [N39]
      have e1 : (lb.fdiv 1048576 != 0) = !decide (lb < 1048576) := by exact shr20 l0
      have e2 : decide ((hs.length : Int) > 8) = !decide (hs.length ≤ 8) := by rw [Bool.eq_iff_iff, Bool.not_eq_true', decide_eq_true_eq, decide_eq_false_iff_not]; omega
      rw [e1, e2]
      simp only [hp, hh, Bool.true_and, Bool.and_true, beq_self_eq_true]
      unfold right6
      rw [show decide (off ≥ 0) = decide (0 ≤ off) from rfl]
      cases decide (lb < 1048576); · rfl
      cases decide (hs.length ≤ 8); · rfl
      cases rightH hs; · rfl
      cases fr
      · cases id == 0; · rfl
        cases off == 0; · rfl
        cases mo; rotate_left; · rfl
        cases exB pr; rotate_left; · rfl
        rfl
      · cases decide (0 ≤ off); · rfl
        rfl
    · exact .inl fun k => by rw [aIf_neg hp]
  · exact .inl fun k => rfl
theorem En39 : Enters Try.prog 39 := ⟨_, Try.func39, by decide, rfl⟩

/-- ferryman/ipv6.Check -/
noncomputable def T33 : List (FuncId × FSpec) := [(36, S36), (39, S39)]
theorem T33_ok : TabOK Try.prog T33 := TabOK.cons En36 S36_ok (TabOK.cons En39 S39_ok (TabOK.nil _))
noncomputable def C33 : Ctx := (ctx E T33 [] [(0, [1]), (1, [1, 5]), (2, [2]), (3, [13]), (4, [2]), (5, [2])] [] 14 70)
theorem C33_ok : CtxOK Try.prog C33 := ctx_ok E_ok E_flds mixed T33_ok
noncomputable def B33 : FSpec := inlineK C33 Try.f33
noncomputable def S33 : FSpec := fun args H k => match args, H with
  | [.agg cs], [] => aIf (v6G cs) (k (.ret (.int .i64 (chk6 (cs.getD 1 .junk).toInt (cs.getD 35 .junk).toFs (cs.getD 36 .junk).toBool (cs.getD 37 .junk).toInt (cs.getD 38 .junk).toInt (cs.getD 39 .junk).toBool (cs.getD 40 .junk).toInt (cs.getD 41 .junk).toFs))) []) none
  | _, _ => none
theorem B33_ok : SpecOK Try.prog 33 B33 := inlineK_ok C33_ok Try.func33 (fun _ _ => LoopsOK.none _)
theorem N33 (cl lb hop : Int) (x y : Nat → Int) (hs : List AV) (hf : SF) (fr : Bool) (id off : Int) (mo : Bool) (pr : Int) (bs : List AV) (bf : SF)  (k : KE) : B33 [.agg [.int .u8 cl, .int .u32 lb, .int .u8 hop, .int .u8 (x 0), .int .u8 (x 1), .int .u8 (x 2), .int .u8 (x 3), .int .u8 (x 4), .int .u8 (x 5), .int .u8 (x 6), .int .u8 (x 7), .int .u8 (x 8), .int .u8 (x 9), .int .u8 (x 10), .int .u8 (x 11), .int .u8 (x 12), .int .u8 (x 13), .int .u8 (x 14), .int .u8 (x 15), .int .u8 (y 0), .int .u8 (y 1), .int .u8 (y 2), .int .u8 (y 3), .int .u8 (y 4), .int .u8 (y 5), .int .u8 (y 6), .int .u8 (y 7), .int .u8 (y 8), .int .u8 (y 9), .int .u8 (y 10), .int .u8 (y 11), .int .u8 (y 12), .int .u8 (y 13), .int .u8 (y 14), .int .u8 (y 15), .fs 2 hs hf, .bool fr, .int .u32 id, .int .i64 off, .bool mo, .int .u8 pr, .fs 1 bs bf]] [] k =
  aIf (Pl.v6G [AV.int IntKind.u8 cl, AV.int IntKind.u32 lb, AV.int IntKind.u8 hop, AV.int IntKind.u8 (x 0), AV.int IntKind.u8 (x 1), AV.int IntKind.u8 (x 2), AV.int IntKind.u8 (x 3), AV.int IntKind.u8 (x 4), AV.int IntKind.u8 (x 5), AV.int IntKind.u8 (x 6), AV.int IntKind.u8 (x 7), AV.int IntKind.u8 (x 8), AV.int IntKind.u8 (x 9), AV.int IntKind.u8 (x 10), AV.int IntKind.u8 (x 11), AV.int IntKind.u8 (x 12), AV.int IntKind.u8 (x 13), AV.int IntKind.u8 (x 14), AV.int IntKind.u8 (x 15), AV.int IntKind.u8 (y 0), AV.int IntKind.u8 (y 1), AV.int IntKind.u8 (y 2), AV.int IntKind.u8 (y 3), AV.int IntKind.u8 (y 4), AV.int IntKind.u8 (y 5), AV.int IntKind.u8 (y 6), AV.int IntKind.u8 (y 7), AV.int IntKind.u8 (y 8), AV.int IntKind.u8 (y 9), AV.int IntKind.u8 (y 10), AV.int IntKind.u8 (y 11), AV.int IntKind.u8 (y 12), AV.int IntKind.u8 (y 13), AV.int IntKind.u8 (y 14), AV.int IntKind.u8 (y 15), AV.fs 2 hs hf, AV.bool fr, AV.int IntKind.u32 id, AV.int IntKind.i64 off, AV.bool mo, AV.int IntKind.u8 pr, AV.fs 1 bs bf]) (aIf (!Pl.right6 lb hs fr id off mo pr) (k (AEnd.ret (AV.int IntKind.i64 54)) []) (aIf (Pl.v6G [AV.int IntKind.u8 cl, AV.int IntKind.u32 lb, AV.int IntKind.u8 hop, AV.int IntKind.u8 (x 0), AV.int IntKind.u8 (x 1), AV.int IntKind.u8 (x 2), AV.int IntKind.u8 (x 3), AV.int IntKind.u8 (x 4), AV.int IntKind.u8 (x 5), AV.int IntKind.u8 (x 6), AV.int IntKind.u8 (x 7), AV.int IntKind.u8 (x 8), AV.int IntKind.u8 (x 9), AV.int IntKind.u8 (x 10), AV.int IntKind.u8 (x 11), AV.int IntKind.u8 (x 12), AV.int IntKind.u8 (x 13), AV.int IntKind.u8 (x 14), AV.int IntKind.u8 (x 15), AV.int IntKind.u8 (y 0), AV.int IntKind.u8 (y 1), AV.int IntKind.u8 (y 2), AV.int IntKind.u8 (y 3), AV.int IntKind.u8 (y 4), AV.int IntKind.u8 (y 5), AV.int IntKind.u8 (y 6), AV.int IntKind.u8 (y 7), AV.int IntKind.u8 (y 8), AV.int IntKind.u8 (y 9), AV.int IntKind.u8 (y 10), AV.int IntKind.u8 (y 11), AV.int IntKind.u8 (y 12), AV.int IntKind.u8 (y 13), AV.int IntKind.u8 (y 14), AV.int IntKind.u8 (y 15), AV.fs 2 hs hf, AV.bool fr, AV.int IntKind.u32 id, AV.int IntKind.i64 off, AV.bool mo, AV.int IntKind.u8 pr, AV.fs 1 bs bf] && (Pl.rightH hs && decide (hs.length ≤ 8))) (aIf (decide ((↑bs.length : Int) > IntKind.i64.wrap (65535 - IntKind.i64.wrap ((↑(Pl.ahd6 hs fr) : Int) - 40)))) (k (AEnd.ret (AV.int IntKind.i64 2)) []) (k (AEnd.ret (AV.int IntKind.i64 0)) [])) none)) none := by kernel_rfl
theorem S33_ok : SpecOK Try.prog 33 S33 := by
  refine B33_ok.turn fun args H => ?_
  unfold S33
  split
  · rename_i cs 
    rcases Bool.eq_false_or_eq_true (v6G cs) with hp | hp
    · refine .inr fun k => ?_
      rw [aIf_pos hp]
      skip
      skip
      obtain ⟨cl, lb, hop, x, y, hs, hf, fr, id, off, mo, pr, bs, bf, rfl, hok⟩ := v6G_iff.1 hp
      have hok' := hok
      replace hp : v6G [.int .u8 cl, .int .u32 lb, .int .u8 hop, .int .u8 (x 0), .int .u8 (x 1), .int .u8 (x 2), .int .u8 (x 3), .int .u8 (x 4), .int .u8 (x 5), .int .u8 (x 6), .int .u8 (x 7), .int .u8 (x 8), .int .u8 (x 9), .int .u8 (x 10), .int .u8 (x 11), .int .u8 (x 12), .int .u8 (x 13), .int .u8 (x 14), .int .u8 (x 15), .int .u8 (y 0), .int .u8 (y 1), .int .u8 (y 2), .int .u8 (y 3), .int .u8 (y 4), .int .u8 (y 5), .int .u8 (y 6), .int .u8 (y 7), .int .u8 (y 8), .int .u8 (y 9), .int .u8 (y 10), .int .u8 (y 11), .int .u8 (y 12), .int .u8 (y 13), .int .u8 (y 14), .int .u8 (y 15), .fs 2 hs hf, .bool fr, .int .u32 id, .int .i64 off, .bool mo, .int .u8 pr, .fs 1 bs bf] = true := hp
      obtain ⟨hh, hhf, hb, hbf, l0, l1, o0, o1, p0, p1, i0, i1⟩ := v6Ok_iff.1 hok'
      show k (.ret (.int .i64 (chk6 lb hs fr id off mo pr bs))) [] = B33 [.agg [.int .u8 cl, .int .u32 lb, .int .u8 hop, .int .u8 (x 0), .int .u8 (x 1), .int .u8 (x 2), .int .u8 (x 3), .int .u8 (x 4), .int .u8 (x 5), .int .u8 (x 6), .int .u8 (x 7), .int .u8 (x 8), .int .u8 (x 9), .int .u8 (x 10), .int .u8 (x 11), .int .u8 (x 12), .int .u8 (x 13), .int .u8 (x 14), .int .u8 (x 15), .int .u8 (y 0), .int .u8 (y 1), .int .u8 (y 2), .int .u8 (y 3), .int .u8 (y 4), .int .u8 (y 5), .int .u8 (y 6), .int .u8 (y 7), .int .u8 (y 8), .int .u8 (y 9), .int .u8 (y 10), .int .u8 (y 11), .int .u8 (y 12), .int .u8 (y 13), .int .u8 (y 14), .int .u8 (y 15), .fs 2 hs hf, .bool fr, .int .u32 id, .int .i64 off, .bool mo, .int .u8 pr, .fs 1 bs bf]] [] k
      rw [N33]
      simp only [hp, aIf_true]
      unfold chk6
      cases hr6 : right6 lb hs fr id off mo pr with
      | false => rfl
      | true =>
        obtain ⟨hr, hl⟩ := right6_heads hr6
        obtain ⟨a1, a2, a3⟩ := ahd6_le hh hr hl fr
        simp only [hr, decide_eq_true hl, Bool.true_and, aIf_true, Bool.not_true, aIf_false, cond_true]
        generalize headsN hs + (bif fr then 8 else 0) = z at *
        rw [i64_of (n := (ahd6 hs fr : Int) - 40) (by omega) (by omega), i64_of (by omega) (by omega)]
        rw [show decide ((bs.length : Int) > 65535 - ((ahd6 hs fr : Int) - 40)) = !decide (z + bs.length ≤ 65535) by rw [Bool.eq_iff_iff, Bool.not_eq_true', decide_eq_true_eq, decide_eq_false_iff_not]; omega]
        cases decide (z + bs.length ≤ 65535) <;> rfl
    · exact .inl fun k => by rw [aIf_neg hp]
  · exact .inl fun k => rfl
theorem En33 : Enters Try.prog 33 := ⟨_, Try.func33, by decide, rfl⟩

/-- ferryman/ipv6.Size -/
noncomputable def T25 : List (FuncId × FSpec) := [(33, S33), (36, S36)]
theorem T25_ok : TabOK Try.prog T25 := TabOK.cons En33 S33_ok (TabOK.cons En36 S36_ok (TabOK.nil _))
noncomputable def C25 : Ctx := (ctx E T25 [] [(0, [1]), (1, [1, 5]), (2, [1, 5, 9]), (3, [2, 3, 4]), (4, [2, 3, 4])] [] 19 70)
theorem C25_ok : CtxOK Try.prog C25 := ctx_ok E_ok E_flds mixed T25_ok
noncomputable def B25 : FSpec := inlineK C25 Try.f25
noncomputable def S25 : FSpec := fun args H k => match args, H with
  | [.agg cs], [] => aIf (v6G cs) (k (.ret (.tup [.int .i64 (bif chk6 (cs.getD 1 .junk).toInt (cs.getD 35 .junk).toFs (cs.getD 36 .junk).toBool (cs.getD 37 .junk).toInt (cs.getD 38 .junk).toInt (cs.getD 39 .junk).toBool (cs.getD 40 .junk).toInt (cs.getD 41 .junk).toFs == 0 then ((ahd6 (cs.getD 35 .junk).toFs (cs.getD 36 .junk).toBool + (cs.getD 41 .junk).toFs.length : Nat) : Int) else 0), .int .i64 (bif chk6 (cs.getD 1 .junk).toInt (cs.getD 35 .junk).toFs (cs.getD 36 .junk).toBool (cs.getD 37 .junk).toInt (cs.getD 38 .junk).toInt (cs.getD 39 .junk).toBool (cs.getD 40 .junk).toInt (cs.getD 41 .junk).toFs == 0 then (ahd6 (cs.getD 35 .junk).toFs (cs.getD 36 .junk).toBool : Int) else 0), .int .i64 (chk6 (cs.getD 1 .junk).toInt (cs.getD 35 .junk).toFs (cs.getD 36 .junk).toBool (cs.getD 37 .junk).toInt (cs.getD 38 .junk).toInt (cs.getD 39 .junk).toBool (cs.getD 40 .junk).toInt (cs.getD 41 .junk).toFs)])) []) none
  | _, _ => none
theorem B25_ok : SpecOK Try.prog 25 B25 := inlineK_ok C25_ok Try.func25 (fun _ _ => LoopsOK.none _)
theorem N25 (cl lb hop : Int) (x y : Nat → Int) (hs : List AV) (hf : SF) (fr : Bool) (id off : Int) (mo : Bool) (pr : Int) (bs : List AV) (bf : SF)  (k : KE) : B25 [.agg [.int .u8 cl, .int .u32 lb, .int .u8 hop, .int .u8 (x 0), .int .u8 (x 1), .int .u8 (x 2), .int .u8 (x 3), .int .u8 (x 4), .int .u8 (x 5), .int .u8 (x 6), .int .u8 (x 7), .int .u8 (x 8), .int .u8 (x 9), .int .u8 (x 10), .int .u8 (x 11), .int .u8 (x 12), .int .u8 (x 13), .int .u8 (x 14), .int .u8 (x 15), .int .u8 (y 0), .int .u8 (y 1), .int .u8 (y 2), .int .u8 (y 3), .int .u8 (y 4), .int .u8 (y 5), .int .u8 (y 6), .int .u8 (y 7), .int .u8 (y 8), .int .u8 (y 9), .int .u8 (y 10), .int .u8 (y 11), .int .u8 (y 12), .int .u8 (y 13), .int .u8 (y 14), .int .u8 (y 15), .fs 2 hs hf, .bool fr, .int .u32 id, .int .i64 off, .bool mo, .int .u8 pr, .fs 1 bs bf]] [] k =
  aIf (Pl.v6G [AV.int IntKind.u8 cl, AV.int IntKind.u32 lb, AV.int IntKind.u8 hop, AV.int IntKind.u8 (x 0), AV.int IntKind.u8 (x 1), AV.int IntKind.u8 (x 2), AV.int IntKind.u8 (x 3), AV.int IntKind.u8 (x 4), AV.int IntKind.u8 (x 5), AV.int IntKind.u8 (x 6), AV.int IntKind.u8 (x 7), AV.int IntKind.u8 (x 8), AV.int IntKind.u8 (x 9), AV.int IntKind.u8 (x 10), AV.int IntKind.u8 (x 11), AV.int IntKind.u8 (x 12), AV.int IntKind.u8 (x 13), AV.int IntKind.u8 (x 14), AV.int IntKind.u8 (x 15), AV.int IntKind.u8 (y 0), AV.int IntKind.u8 (y 1), AV.int IntKind.u8 (y 2), AV.int IntKind.u8 (y 3), AV.int IntKind.u8 (y 4), AV.int IntKind.u8 (y 5), AV.int IntKind.u8 (y 6), AV.int IntKind.u8 (y 7), AV.int IntKind.u8 (y 8), AV.int IntKind.u8 (y 9), AV.int IntKind.u8 (y 10), AV.int IntKind.u8 (y 11), AV.int IntKind.u8 (y 12), AV.int IntKind.u8 (y 13), AV.int IntKind.u8 (y 14), AV.int IntKind.u8 (y 15), AV.fs 2 hs hf, AV.bool fr, AV.int IntKind.u32 id, AV.int IntKind.i64 off, AV.bool mo, AV.int IntKind.u8 pr, AV.fs 1 bs bf]) (aIf (Pl.chk6 lb hs fr id off mo pr bs != 0) (k (AEnd.ret (AV.tup [AV.int IntKind.i64 0, AV.int IntKind.i64 0, AV.int IntKind.i64 (Pl.chk6 lb hs fr id off mo pr bs)])) []) (aIf (Pl.v6G [AV.int IntKind.u8 cl, AV.int IntKind.u32 lb, AV.int IntKind.u8 hop, AV.int IntKind.u8 (x 0), AV.int IntKind.u8 (x 1), AV.int IntKind.u8 (x 2), AV.int IntKind.u8 (x 3), AV.int IntKind.u8 (x 4), AV.int IntKind.u8 (x 5), AV.int IntKind.u8 (x 6), AV.int IntKind.u8 (x 7), AV.int IntKind.u8 (x 8), AV.int IntKind.u8 (x 9), AV.int IntKind.u8 (x 10), AV.int IntKind.u8 (x 11), AV.int IntKind.u8 (x 12), AV.int IntKind.u8 (x 13), AV.int IntKind.u8 (x 14), AV.int IntKind.u8 (x 15), AV.int IntKind.u8 (y 0), AV.int IntKind.u8 (y 1), AV.int IntKind.u8 (y 2), AV.int IntKind.u8 (y 3), AV.int IntKind.u8 (y 4), AV.int IntKind.u8 (y 5), AV.int IntKind.u8 (y 6), AV.int IntKind.u8 (y 7), AV.int IntKind.u8 (y 8), AV.int IntKind.u8 (y 9), AV.int IntKind.u8 (y 10), AV.int IntKind.u8 (y 11), AV.int IntKind.u8 (y 12), AV.int IntKind.u8 (y 13), AV.int IntKind.u8 (y 14), AV.int IntKind.u8 (y 15), AV.fs 2 hs hf, AV.bool fr, AV.int IntKind.u32 id, AV.int IntKind.i64 off, AV.bool mo, AV.int IntKind.u8 pr, AV.fs 1 bs bf] && (Pl.rightH hs && decide (hs.length ≤ 8))) (aIf (Pl.v6G [AV.int IntKind.u8 cl, AV.int IntKind.u32 lb, AV.int IntKind.u8 hop, AV.int IntKind.u8 (x 0), AV.int IntKind.u8 (x 1), AV.int IntKind.u8 (x 2), AV.int IntKind.u8 (x 3), AV.int IntKind.u8 (x 4), AV.int IntKind.u8 (x 5), AV.int IntKind.u8 (x 6), AV.int IntKind.u8 (x 7), AV.int IntKind.u8 (x 8), AV.int IntKind.u8 (x 9), AV.int IntKind.u8 (x 10), AV.int IntKind.u8 (x 11), AV.int IntKind.u8 (x 12), AV.int IntKind.u8 (x 13), AV.int IntKind.u8 (x 14), AV.int IntKind.u8 (x 15), AV.int IntKind.u8 (y 0), AV.int IntKind.u8 (y 1), AV.int IntKind.u8 (y 2), AV.int IntKind.u8 (y 3), AV.int IntKind.u8 (y 4), AV.int IntKind.u8 (y 5), AV.int IntKind.u8 (y 6), AV.int IntKind.u8 (y 7), AV.int IntKind.u8 (y 8), AV.int IntKind.u8 (y 9), AV.int IntKind.u8 (y 10), AV.int IntKind.u8 (y 11), AV.int IntKind.u8 (y 12), AV.int IntKind.u8 (y 13), AV.int IntKind.u8 (y 14), AV.int IntKind.u8 (y 15), AV.fs 2 hs hf, AV.bool fr, AV.int IntKind.u32 id, AV.int IntKind.i64 off, AV.bool mo, AV.int IntKind.u8 pr, AV.fs 1 bs bf] && (Pl.rightH hs && decide (hs.length ≤ 8))) (k (AEnd.ret (AV.tup [AV.int IntKind.i64 (IntKind.i64.wrap ((↑(Pl.ahd6 hs fr) : Int) + (↑bs.length : Int))), AV.int IntKind.i64 (↑(Pl.ahd6 hs fr) : Int), AV.int IntKind.i64 0])) []) none) none)) none := by kernel_rfl
theorem S25_ok : SpecOK Try.prog 25 S25 := by
  refine B25_ok.turn fun args H => ?_
  unfold S25
  split
  · rename_i cs 
    rcases Bool.eq_false_or_eq_true (v6G cs) with hp | hp
    · refine .inr fun k => ?_
      rw [aIf_pos hp]
      skip
      skip
      obtain ⟨cl, lb, hop, x, y, hs, hf, fr, id, off, mo, pr, bs, bf, rfl, hok⟩ := v6G_iff.1 hp
      have hok' := hok
      replace hp : v6G [.int .u8 cl, .int .u32 lb, .int .u8 hop, .int .u8 (x 0), .int .u8 (x 1), .int .u8 (x 2), .int .u8 (x 3), .int .u8 (x 4), .int .u8 (x 5), .int .u8 (x 6), .int .u8 (x 7), .int .u8 (x 8), .int .u8 (x 9), .int .u8 (x 10), .int .u8 (x 11), .int .u8 (x 12), .int .u8 (x 13), .int .u8 (x 14), .int .u8 (x 15), .int .u8 (y 0), .int .u8 (y 1), .int .u8 (y 2), .int .u8 (y 3), .int .u8 (y 4), .int .u8 (y 5), .int .u8 (y 6), .int .u8 (y 7), .int .u8 (y 8), .int .u8 (y 9), .int .u8 (y 10), .int .u8 (y 11), .int .u8 (y 12), .int .u8 (y 13), .int .u8 (y 14), .int .u8 (y 15), .fs 2 hs hf, .bool fr, .int .u32 id, .int .i64 off, .bool mo, .int .u8 pr, .fs 1 bs bf] = true := hp
      obtain ⟨hh, hhf, hb, hbf, l0, l1, o0, o1, p0, p1, i0, i1⟩ := v6Ok_iff.1 hok'
      show k (.ret (.tup [.int .i64 (bif chk6 lb hs fr id off mo pr bs == 0 then ((ahd6 hs fr + bs.length : Nat) : Int) else 0), .int .i64 (bif chk6 lb hs fr id off mo pr bs == 0 then (ahd6 hs fr : Int) else 0), .int .i64 (chk6 lb hs fr id off mo pr bs)])) [] = B25 [.agg [.int .u8 cl, .int .u32 lb, .int .u8 hop, .int .u8 (x 0), .int .u8 (x 1), .int .u8 (x 2), .int .u8 (x 3), .int .u8 (x 4), .int .u8 (x 5), .int .u8 (x 6), .int .u8 (x 7), .int .u8 (x 8), .int .u8 (x 9), .int .u8 (x 10), .int .u8 (x 11), .int .u8 (x 12), .int .u8 (x 13), .int .u8 (x 14), .int .u8 (x 15), .int .u8 (y 0), .int .u8 (y 1), .int .u8 (y 2), .int .u8 (y 3), .int .u8 (y 4), .int .u8 (y 5), .int .u8 (y 6), .int .u8 (y 7), .int .u8 (y 8), .int .u8 (y 9), .int .u8 (y 10), .int .u8 (y 11), .int .u8 (y 12), .int .u8 (y 13), .int .u8 (y 14), .int .u8 (y 15), .fs 2 hs hf, .bool fr, .int .u32 id, .int .i64 off, .bool mo, .int .u8 pr, .fs 1 bs bf]] [] k
      rw [N25]
      simp only [hp, aIf_true]
      by_cases hc : chk6 lb hs fr id off mo pr bs = 0
      · obtain ⟨hr6, hbl⟩ := chk6_ok hc
        obtain ⟨hr, hl⟩ := right6_heads hr6
        obtain ⟨a1, a2, a3⟩ := ahd6_le hh hr hl fr
        have hbl2 : bs.length ≤ 65535 := by omega
        simp only [hc, hr, decide_eq_true hl, Bool.true_and, aIf_true, bne_self_eq_false, aIf_false, beq_self_eq_true, cond_true]
        rw [i64_of (by omega) (by omega)]
        rfl
      · simp only [bne, beq_eq_false_iff_ne.2 hc, Bool.not_false, aIf_true, cond_false]
    · exact .inl fun k => by rw [aIf_neg hp]
  · exact .inl fun k => rfl
theorem En25 : Enters Try.prog 25 := ⟨_, Try.func25, by decide, rfl⟩

/-- ferryman/splitsix.must -/
noncomputable def T32 : List (FuncId × FSpec) := []
theorem T32_ok : TabOK Try.prog T32 := TabOK.nil _
noncomputable def C32 : Ctx := (ctx E T32 [] [(0, [0, 3]), (1, [])] [] 6 70)
theorem C32_ok : CtxOK Try.prog C32 := ctx_ok E_ok E_flds mixed T32_ok
noncomputable def S32 : FSpec := inlineK C32 Try.f32
theorem S32_ok : SpecOK Try.prog 32 S32 := inlineK_ok C32_ok Try.func32 (fun _ _ => LoopsOK.none _)
theorem En32 : Enters Try.prog 32 := ⟨_, Try.func32, by decide, rfl⟩

/-- ferryman/splitsix.fits -/
noncomputable def T23 : List (FuncId × FSpec) := [(25, S25), (32, S32), (33, S33)]
theorem T23_ok : TabOK Try.prog T23 := TabOK.cons En25 S25_ok (TabOK.cons En32 S32_ok (TabOK.cons En33 S33_ok (TabOK.nil _)))
noncomputable def C23 : Ctx := (ctx E T23 [] [(0, [1, 2]), (1, [1, 2]), (2, [1, 2, 16]), (3, [1, 2]), (4, [1, 5]), (5, [4])] [] 27 70)
theorem C23_ok : CtxOK Try.prog C23 := ctx_ok E_ok E_flds mixed T23_ok
noncomputable def B23 : FSpec := inlineK C23 Try.f23
noncomputable def S23 : FSpec := fun args H k => match args, H with
  | [.agg cs, .int .i64 m], [] => aIf (v6G cs) (aIf (ask6 (cs.getD 1 .junk).toInt (cs.getD 35 .junk).toFs (cs.getD 36 .junk).toBool (cs.getD 37 .junk).toInt (cs.getD 38 .junk).toInt (cs.getD 39 .junk).toBool (cs.getD 40 .junk).toInt (cs.getD 41 .junk).toFs m == 0) (k (.ret (.bool (fit6 (cs.getD 1 .junk).toInt (cs.getD 35 .junk).toFs (cs.getD 36 .junk).toBool (cs.getD 37 .junk).toInt (cs.getD 38 .junk).toInt (cs.getD 39 .junk).toBool (cs.getD 40 .junk).toInt (cs.getD 41 .junk).toFs m))) []) (k (.pan (.iface 31 (.int .i64 (ask6 (cs.getD 1 .junk).toInt (cs.getD 35 .junk).toFs (cs.getD 36 .junk).toBool (cs.getD 37 .junk).toInt (cs.getD 38 .junk).toInt (cs.getD 39 .junk).toBool (cs.getD 40 .junk).toInt (cs.getD 41 .junk).toFs m)))) [])) none
  | _, _ => none
theorem B23_ok : SpecOK Try.prog 23 B23 := inlineK_ok C23_ok Try.func23 (fun _ _ => LoopsOK.none _)
theorem N23 (cl lb hop : Int) (x y : Nat → Int) (hs : List AV) (hf : SF) (fr : Bool) (id off : Int) (mo : Bool) (pr : Int) (bs : List AV) (bf : SF) (m : Int) (k : KE) : B23 [.agg [.int .u8 cl, .int .u32 lb, .int .u8 hop, .int .u8 (x 0), .int .u8 (x 1), .int .u8 (x 2), .int .u8 (x 3), .int .u8 (x 4), .int .u8 (x 5), .int .u8 (x 6), .int .u8 (x 7), .int .u8 (x 8), .int .u8 (x 9), .int .u8 (x 10), .int .u8 (x 11), .int .u8 (x 12), .int .u8 (x 13), .int .u8 (x 14), .int .u8 (x 15), .int .u8 (y 0), .int .u8 (y 1), .int .u8 (y 2), .int .u8 (y 3), .int .u8 (y 4), .int .u8 (y 5), .int .u8 (y 6), .int .u8 (y 7), .int .u8 (y 8), .int .u8 (y 9), .int .u8 (y 10), .int .u8 (y 11), .int .u8 (y 12), .int .u8 (y 13), .int .u8 (y 14), .int .u8 (y 15), .fs 2 hs hf, .bool fr, .int .u32 id, .int .i64 off, .bool mo, .int .u8 pr, .fs 1 bs bf], .int .i64 m] [] k =
  aIf (Pl.v6G [AV.int IntKind.u8 cl, AV.int IntKind.u32 lb, AV.int IntKind.u8 hop, AV.int IntKind.u8 (x 0), AV.int IntKind.u8 (x 1), AV.int IntKind.u8 (x 2), AV.int IntKind.u8 (x 3), AV.int IntKind.u8 (x 4), AV.int IntKind.u8 (x 5), AV.int IntKind.u8 (x 6), AV.int IntKind.u8 (x 7), AV.int IntKind.u8 (x 8), AV.int IntKind.u8 (x 9), AV.int IntKind.u8 (x 10), AV.int IntKind.u8 (x 11), AV.int IntKind.u8 (x 12), AV.int IntKind.u8 (x 13), AV.int IntKind.u8 (x 14), AV.int IntKind.u8 (x 15), AV.int IntKind.u8 (y 0), AV.int IntKind.u8 (y 1), AV.int IntKind.u8 (y 2), AV.int IntKind.u8 (y 3), AV.int IntKind.u8 (y 4), AV.int IntKind.u8 (y 5), AV.int IntKind.u8 (y 6), AV.int IntKind.u8 (y 7), AV.int IntKind.u8 (y 8), AV.int IntKind.u8 (y 9), AV.int IntKind.u8 (y 10), AV.int IntKind.u8 (y 11), AV.int IntKind.u8 (y 12), AV.int IntKind.u8 (y 13), AV.int IntKind.u8 (y 14), AV.int IntKind.u8 (y 15), AV.fs 2 hs hf, AV.bool fr, AV.int IntKind.u32 id, AV.int IntKind.i64 off, AV.bool mo, AV.int IntKind.u8 pr, AV.fs 1 bs bf]) (aIf (Pl.chk6 lb hs fr id off mo pr bs != 0) (k (AEnd.pan (AV.iface 31 (AV.int IntKind.i64 (Pl.chk6 lb hs fr id off mo pr bs)))) []) (aIf (decide (m < 1280)) (k (AEnd.pan (AV.iface 31 (AV.int IntKind.i64 131))) []) (aIf (decide (m > 65535)) (k (AEnd.pan (AV.iface 31 (AV.int IntKind.i64 131))) []) (aIf (Pl.v6G [AV.int IntKind.u8 cl, AV.int IntKind.u32 lb, AV.int IntKind.u8 hop, AV.int IntKind.u8 (x 0), AV.int IntKind.u8 (x 1), AV.int IntKind.u8 (x 2), AV.int IntKind.u8 (x 3), AV.int IntKind.u8 (x 4), AV.int IntKind.u8 (x 5), AV.int IntKind.u8 (x 6), AV.int IntKind.u8 (x 7), AV.int IntKind.u8 (x 8), AV.int IntKind.u8 (x 9), AV.int IntKind.u8 (x 10), AV.int IntKind.u8 (x 11), AV.int IntKind.u8 (x 12), AV.int IntKind.u8 (x 13), AV.int IntKind.u8 (x 14), AV.int IntKind.u8 (x 15), AV.int IntKind.u8 (y 0), AV.int IntKind.u8 (y 1), AV.int IntKind.u8 (y 2), AV.int IntKind.u8 (y 3), AV.int IntKind.u8 (y 4), AV.int IntKind.u8 (y 5), AV.int IntKind.u8 (y 6), AV.int IntKind.u8 (y 7), AV.int IntKind.u8 (y 8), AV.int IntKind.u8 (y 9), AV.int IntKind.u8 (y 10), AV.int IntKind.u8 (y 11), AV.int IntKind.u8 (y 12), AV.int IntKind.u8 (y 13), AV.int IntKind.u8 (y 14), AV.int IntKind.u8 (y 15), AV.fs 2 hs hf, AV.bool fr, AV.int IntKind.u32 id, AV.int IntKind.i64 off, AV.bool mo, AV.int IntKind.u8 pr, AV.fs 1 bs bf]) (k (AEnd.ret (AV.bool (decide ((bif Pl.chk6 lb hs fr id off mo pr bs == 0 then (↑(Pl.ahd6 hs fr + bs.length) : Int) else 0) ≤ m)))) []) none)))) none := by kernel_rfl
theorem S23_ok : SpecOK Try.prog 23 S23 := by
  refine B23_ok.turn fun args H => ?_
  unfold S23
  split
  · rename_i cs m
    rcases Bool.eq_false_or_eq_true (v6G cs) with hp | hp
    · refine .inr fun k => ?_
      rw [aIf_pos hp]
      skip
      skip
      obtain ⟨cl, lb, hop, x, y, hs, hf, fr, id, off, mo, pr, bs, bf, rfl, hok⟩ := v6G_iff.1 hp
      have hok' := hok
      replace hp : v6G [.int .u8 cl, .int .u32 lb, .int .u8 hop, .int .u8 (x 0), .int .u8 (x 1), .int .u8 (x 2), .int .u8 (x 3), .int .u8 (x 4), .int .u8 (x 5), .int .u8 (x 6), .int .u8 (x 7), .int .u8 (x 8), .int .u8 (x 9), .int .u8 (x 10), .int .u8 (x 11), .int .u8 (x 12), .int .u8 (x 13), .int .u8 (x 14), .int .u8 (x 15), .int .u8 (y 0), .int .u8 (y 1), .int .u8 (y 2), .int .u8 (y 3), .int .u8 (y 4), .int .u8 (y 5), .int .u8 (y 6), .int .u8 (y 7), .int .u8 (y 8), .int .u8 (y 9), .int .u8 (y 10), .int .u8 (y 11), .int .u8 (y 12), .int .u8 (y 13), .int .u8 (y 14), .int .u8 (y 15), .fs 2 hs hf, .bool fr, .int .u32 id, .int .i64 off, .bool mo, .int .u8 pr, .fs 1 bs bf] = true := hp
      obtain ⟨hh, hhf, hb, hbf, l0, l1, o0, o1, p0, p1, i0, i1⟩ := v6Ok_iff.1 hok'
      show aIf (ask6 lb hs fr id off mo pr bs m == 0) (k (.ret (.bool (fit6 lb hs fr id off mo pr bs m))) []) (k (.pan (.iface 31 (.int .i64 (ask6 lb hs fr id off mo pr bs m)))) []) = B23 [.agg [.int .u8 cl, .int .u32 lb, .int .u8 hop, .int .u8 (x 0), .int .u8 (x 1), .int .u8 (x 2), .int .u8 (x 3), .int .u8 (x 4), .int .u8 (x 5), .int .u8 (x 6), .int .u8 (x 7), .int .u8 (x 8), .int .u8 (x 9), .int .u8 (x 10), .int .u8 (x 11), .int .u8 (x 12), .int .u8 (x 13), .int .u8 (x 14), .int .u8 (x 15), .int .u8 (y 0), .int .u8 (y 1), .int .u8 (y 2), .int .u8 (y 3), .int .u8 (y 4), .int .u8 (y 5), .int .u8 (y 6), .int .u8 (y 7), .int .u8 (y 8), .int .u8 (y 9), .int .u8 (y 10), .int .u8 (y 11), .int .u8 (y 12), .int .u8 (y 13), .int .u8 (y 14), .int .u8 (y 15), .fs 2 hs hf, .bool fr, .int .u32 id, .int .i64 off, .bool mo, .int .u8 pr, .fs 1 bs bf], .int .i64 m] [] k
      rw [N23]
      simp only [hp, aIf_true]
      exact (fit6_if _ _ _ _ _ _ _ _ _ k).symm
    · exact .inl fun k => by rw [aIf_neg hp]
  · exact .inl fun k => rfl
theorem En23 : Enters Try.prog 23 := ⟨_, Try.func23, by decide, rfl⟩

/-- slices.Clone[[]ferryman/api.Head,ferryman/api.Head] -/
noncomputable def T34 : List (FuncId × FSpec) := []
theorem T34_ok : TabOK Try.prog T34 := TabOK.nil _
noncomputable def C34 : Ctx := (ctx E T34 [] [(0, [0]), (1, [0, 4]), (2, [2]), (3, [2])] [] 8 70)
theorem C34_ok : CtxOK Try.prog C34 := ctx_ok E_ok E_flds mixed T34_ok
noncomputable def B34 : FSpec := liveK C34 Try.f34
noncomputable def S34 : FSpec := fun args H k => match args, H with
  | [.fs 2 hs hf], [.cells 0 c0, .cells 0 c1] => aIf (hdsB hs && decide (hs.length ≤ 8) && okF hs hf) (aIf (isNil hs) (k (.ret (.fs 2 [] (zeroCap hf))) [.cells 0 c0, .cells 0 c1]) (k (.ret (.sl 2 (hs.length * 2) 0 hs.length 2)) [.cells 0 c0, .cells 0 c1, .cells (hs.length * 2) (hs.flatMap AV.cells)])) none
  | _, _ => none
theorem B34_ok : SpecOK Try.prog 34 B34 := liveK_ok C34_ok Try.func34 (fun _ _ => LoopsOK.none _)
theorem N34n (hs c0 c1 : List AV) (k : KE) : B34 [.fs 2 hs .nil] [.cells 0 c0, .cells 0 c1] k =
  k (AEnd.ret (AV.fs 2 [] SF.nil)) [AO.cells 0 c0, AO.cells 0 c1] := by kernel_rfl
theorem N34z (hs c0 c1 : List AV) (k : KE) : B34 [.fs 2 hs .zc] [.cells 0 c0, .cells 0 c1] k =
  aIf (hs.length == 0) (k (AEnd.ret (AV.fs 2 [] SF.zc)) [AO.cells 0 c0, AO.cells 0 c1]) (aIf ((hs.length * 32).ble 140737488355328) (aIf ((List.flatMap AV.cells hs).length == hs.length * 2) (k (AEnd.ret (AV.sl 2 (hs.length * 2) 0 hs.length 2)) [AO.cells 0 c0, AO.cells 0 c1, AO.cells (hs.length * 2) (List.flatMap AV.cells hs)]) none) none) := by kernel_rfl
theorem N34a (hs c0 c1 : List AV) (k : KE) : B34 [.fs 2 hs .any] [.cells 0 c0, .cells 0 c1] k =
  aIf (hs.length == 0) (k (AEnd.ret (AV.fs 2 [] SF.zc)) [AO.cells 0 c0, AO.cells 0 c1]) (aIf ((hs.length * 32).ble 140737488355328) (aIf ((List.flatMap AV.cells hs).length == hs.length * 2) (k (AEnd.ret (AV.sl 2 (hs.length * 2) 0 hs.length 2)) [AO.cells 0 c0, AO.cells 0 c1, AO.cells (hs.length * 2) (List.flatMap AV.cells hs)]) none) none) := by kernel_rfl
theorem S34_ok : SpecOK Try.prog 34 S34 := by
  refine B34_ok.turn fun args H => ?_
  unfold S34
  split
  · rename_i hs hf c0 c1
    rcases Bool.eq_false_or_eq_true (hdsB hs && decide (hs.length ≤ 8) && okF hs hf) with hp | hp
    · refine .inr fun k => ?_
      rw [aIf_pos hp]
      obtain ⟨⟨hh, hl⟩, hf'⟩ : (hdsB hs = true ∧ hs.length ≤ 8) ∧ okF hs hf = true := by simpa only [Bool.and_eq_true, decide_eq_true_eq] using hp
      have hc := clone_heads hh hl k c0 c1
      cases hf with
      | nil => rw [N34n, isNil_eq (show isNil hs = true from hf')]; rfl
      | zc => rw [N34z]; exact hc
      | any => rw [N34a]; exact hc
    · exact .inl fun k => by rw [aIf_neg hp]
  · exact .inl fun k => rfl
theorem En34 : Enters Try.prog 34 := ⟨_, Try.func34, by decide, rfl⟩

/-- slices.Clone[[]byte,byte] -/
noncomputable def T35 : List (FuncId × FSpec) := []
theorem T35_ok : TabOK Try.prog T35 := TabOK.nil _
noncomputable def C35 : Ctx := (ctx E T35 [] [(0, [0]), (1, [0, 4]), (2, [2]), (3, [2])] [] 8 70)
theorem C35_ok : CtxOK Try.prog C35 := ctx_ok E_ok E_flds mixed T35_ok
noncomputable def B35 : FSpec := inlineK C35 Try.f35
noncomputable def S35 : FSpec := fun args H k => match args, H with
  | [.fs 1 xs fl], [] => aIf (intsB .u8 xs && decide (xs.length ≤ 1000000) && okF xs fl) (k (.ret (.fs 1 xs (cloF xs fl))) []) none
  | _, _ => none
theorem B35_ok : SpecOK Try.prog 35 B35 := inlineK_ok C35_ok Try.func35 (fun _ _ => LoopsOK.none _)
theorem N35n (xs : List AV) (k : KE) : B35 [.fs 1 xs .nil] [] k =
  k (AEnd.ret (AV.fs 1 [] SF.nil)) [] := by kernel_rfl
theorem N35z (xs : List AV) (k : KE) : B35 [.fs 1 xs .zc] [] k =
  aIf (xs.length == 0) (k (AEnd.ret (AV.fs 1 [] SF.zc)) []) (aIf ((xs.length * 1).ble 140737488355328) (aIf ((List.flatMap AV.cells xs).length == xs.length * 1) (aIf (xs.length * 1 == xs.length * 1) (aIf (decide (0 + xs.length * 1 ≤ (List.flatMap AV.cells xs).length)) (aIf (flatL (List.take (xs.length * 1) (List.drop 0 (List.flatMap AV.cells xs)))) (k (AEnd.ret (AV.fs 1 (List.take xs.length (List.drop 0 (List.flatMap AV.cells xs))) SF.any)) []) none) none) none) none) none) := by kernel_rfl
theorem N35a (xs : List AV) (k : KE) : B35 [.fs 1 xs .any] [] k =
  aIf (xs.length == 0) (k (AEnd.ret (AV.fs 1 [] SF.zc)) []) (aIf ((xs.length * 1).ble 140737488355328) (aIf ((List.flatMap AV.cells xs).length == xs.length * 1) (aIf (xs.length * 1 == xs.length * 1) (aIf (decide (0 + xs.length * 1 ≤ (List.flatMap AV.cells xs).length)) (aIf (flatL (List.take (xs.length * 1) (List.drop 0 (List.flatMap AV.cells xs)))) (k (AEnd.ret (AV.fs 1 (List.take xs.length (List.drop 0 (List.flatMap AV.cells xs))) SF.any)) []) none) none) none) none) none) := by kernel_rfl
theorem S35_ok : SpecOK Try.prog 35 S35 := by
  refine B35_ok.turn fun args H => ?_
  unfold S35
  split
  · rename_i xs fl
    rcases Bool.eq_false_or_eq_true (intsB .u8 xs && decide (xs.length ≤ 1000000) && okF xs fl) with hp | hp
    · refine .inr fun k => ?_
      rw [aIf_pos hp]
      obtain ⟨⟨hu, hL⟩, hf⟩ : (intsB .u8 xs = true ∧ xs.length ≤ 1000000) ∧ okF xs fl = true := by simpa only [Bool.and_eq_true, decide_eq_true_eq] using hp
      cases fl with
      | nil => rw [N35n, isNil_eq (show isNil xs = true from hf)]; rfl
      | zc => rw [N35z]; exact clone_law hu hL k
      | any => rw [N35a]; exact clone_law hu hL k
    · exact .inl fun k => by rw [aIf_neg hp]
  · exact .inl fun k => rfl
theorem En35 : Enters Try.prog 35 := ⟨_, Try.func35, by decide, rfl⟩
end Go.Proofs.Ytkbnhliogfcplaa
