import Derived.Test.YtkbnhliogfcplaaDoorA20
import Derived.Test.YtkbnhliogfcplaaDoorRows
import Derived.Test.YtkbnhliogfcplaaDoorPAddr
namespace Go.Proofs.YtkbnhliogfcplaaDoor
open Go.Abs Go.Pl

set_option maxRecDepth 10000 in
noncomputable def E : Env :=
  Env.mk [none, some (TI.mk (TypeDesc.func (Array.mk []) (Array.mk []) false) 1 8 [AV.nilf] true false [CK.other]), some (TI.mk (TypeDesc.int IntKind.i64) 1 8 [AV.int IntKind.i64 0] true true [CK.int IntKind.i64]), some (TI.mk (TypeDesc.int IntKind.i64) 1 8 [AV.int IntKind.i64 0] true true [CK.int IntKind.i64]), some (TI.mk TypeDesc.bool 1 1 [AV.bool false] true true [CK.bool]), some (TI.mk (TypeDesc.int IntKind.u8) 1 1 [AV.int IntKind.u8 0] true true [CK.int IntKind.u8]), some (TI.mk (TypeDesc.int IntKind.u8) 1 1 [AV.int IntKind.u8 0] true true [CK.int IntKind.u8]), some (TI.mk (TypeDesc.struct (Array.mk [Field.mk "x" 2 0 false "" "runtime" 0, Field.mk "y" 3 1 false "" "runtime" 8, Field.mk "signed" 4 2 false "" "runtime" 16, Field.mk "code" 6 3 false "" "runtime" 17])) 4 24 [AV.int IntKind.i64 0, AV.int IntKind.i64 0, AV.bool false, AV.int IntKind.u8 0] true true [CK.int IntKind.i64, CK.int IntKind.i64, CK.bool, CK.int IntKind.u8]), some (TI.mk (TypeDesc.struct (Array.mk [Field.mk "x" 2 0 false "" "runtime" 0, Field.mk "y" 3 1 false "" "runtime" 8, Field.mk "signed" 4 2 false "" "runtime" 16, Field.mk "code" 6 3 false "" "runtime" 17])) 4 24 [AV.int IntKind.i64 0, AV.int IntKind.i64 0, AV.bool false, AV.int IntKind.u8 0] true true [CK.int IntKind.i64, CK.int IntKind.i64, CK.bool, CK.int IntKind.u8]), some (TI.mk TypeDesc.string 1 16 [AV.str (ByteArray.mk (Array.mk []))] true true [CK.str]), some (TI.mk TypeDesc.string 1 16 [AV.str (ByteArray.mk (Array.mk []))] true true [CK.str]), some (TI.mk TypeDesc.string 1 16 [AV.str (ByteArray.mk (Array.mk []))] true true [CK.str]), some (TI.mk (TypeDesc.int IntKind.u64) 1 8 [AV.int IntKind.u64 0] true true [CK.int IntKind.u64]), some (TI.mk (TypeDesc.struct (Array.mk [Field.mk "msg" 9 0 false "" "runtime" 0, Field.mk "addr" 12 1 false "" "runtime" 16])) 2 24 [AV.str (ByteArray.mk (Array.mk [])), AV.int IntKind.u64 0] false true [CK.str, CK.int IntKind.u64]), some (TI.mk (TypeDesc.struct (Array.mk [Field.mk "msg" 9 0 false "" "runtime" 0, Field.mk "addr" 12 1 false "" "runtime" 16])) 2 24 [AV.str (ByteArray.mk (Array.mk [])), AV.int IntKind.u64 0] false true [CK.str, CK.int IntKind.u64]), some (TI.mk (TypeDesc.pointer 112) 1 8 [AV.nilp] true true [CK.other]), some (TI.mk (TypeDesc.pointer 115) 1 8 [AV.nilp] true true [CK.other]), some (TI.mk (TypeDesc.pointer 123) 1 8 [AV.nilp] true true [CK.other]), some (TI.mk (TypeDesc.struct (Array.mk [Field.mk "typ" 17 0 false "" "internal/runtime/maps" 0])) 1 8 [AV.nilp] false true [CK.other]), some (TI.mk (TypeDesc.struct (Array.mk [Field.mk "typ" 17 0 false "" "internal/runtime/maps" 0])) 1 8 [AV.nilp] false true [CK.other]), some (TI.mk (TypeDesc.interface (Array.mk [])) 1 16 [AV.nili] true true [CK.other]), some (TI.mk (TypeDesc.int IntKind.i32) 1 4 [AV.int IntKind.i32 0] true true [CK.int IntKind.i32]), some (TI.mk (TypeDesc.array 16 5) 16 16 [AV.int IntKind.u8 0, AV.int IntKind.u8 0, AV.int IntKind.u8 0, AV.int IntKind.u8 0, AV.int IntKind.u8 0, AV.int IntKind.u8 0, AV.int IntKind.u8 0, AV.int IntKind.u8 0, AV.int IntKind.u8 0, AV.int IntKind.u8 0, AV.int IntKind.u8 0, AV.int IntKind.u8 0, AV.int IntKind.u8 0, AV.int IntKind.u8 0, AV.int IntKind.u8 0, AV.int IntKind.u8 0] true true [CK.int IntKind.u8, CK.int IntKind.u8, CK.int IntKind.u8, CK.int IntKind.u8, CK.int IntKind.u8, CK.int IntKind.u8, CK.int IntKind.u8, CK.int IntKind.u8, CK.int IntKind.u8, CK.int IntKind.u8, CK.int IntKind.u8, CK.int IntKind.u8, CK.int IntKind.u8, CK.int IntKind.u8, CK.int IntKind.u8, CK.int IntKind.u8]), some (TI.mk (TypeDesc.array 16 5) 16 16 [AV.int IntKind.u8 0, AV.int IntKind.u8 0, AV.int IntKind.u8 0, AV.int IntKind.u8 0, AV.int IntKind.u8 0, AV.int IntKind.u8 0, AV.int IntKind.u8 0, AV.int IntKind.u8 0, AV.int IntKind.u8 0, AV.int IntKind.u8 0, AV.int IntKind.u8 0, AV.int IntKind.u8 0, AV.int IntKind.u8 0, AV.int IntKind.u8 0, AV.int IntKind.u8 0, AV.int IntKind.u8 0] true true [CK.int IntKind.u8, CK.int IntKind.u8, CK.int IntKind.u8, CK.int IntKind.u8, CK.int IntKind.u8, CK.int IntKind.u8, CK.int IntKind.u8, CK.int IntKind.u8, CK.int IntKind.u8, CK.int IntKind.u8, CK.int IntKind.u8, CK.int IntKind.u8, CK.int IntKind.u8, CK.int IntKind.u8, CK.int IntKind.u8, CK.int IntKind.u8]), some (TI.mk (TypeDesc.struct (Array.mk [Field.mk "Addr" 23 0 false "" "" 0, Field.mk "Len" 3 16 false "" "" 16])) 17 24 [AV.int IntKind.u8 0, AV.int IntKind.u8 0, AV.int IntKind.u8 0, AV.int IntKind.u8 0, AV.int IntKind.u8 0, AV.int IntKind.u8 0, AV.int IntKind.u8 0, AV.int IntKind.u8 0, AV.int IntKind.u8 0, AV.int IntKind.u8 0, AV.int IntKind.u8 0, AV.int IntKind.u8 0, AV.int IntKind.u8 0, AV.int IntKind.u8 0, AV.int IntKind.u8 0, AV.int IntKind.u8 0, AV.int IntKind.i64 0] true true [CK.int IntKind.u8, CK.int IntKind.u8, CK.int IntKind.u8, CK.int IntKind.u8, CK.int IntKind.u8, CK.int IntKind.u8, CK.int IntKind.u8, CK.int IntKind.u8, CK.int IntKind.u8, CK.int IntKind.u8, CK.int IntKind.u8, CK.int IntKind.u8, CK.int IntKind.u8, CK.int IntKind.u8, CK.int IntKind.u8, CK.int IntKind.u8, CK.int IntKind.i64]), some (TI.mk (TypeDesc.struct (Array.mk [Field.mk "Addr" 23 0 false "" "" 0, Field.mk "Len" 3 16 false "" "" 16])) 17 24 [AV.int IntKind.u8 0, AV.int IntKind.u8 0, AV.int IntKind.u8 0, AV.int IntKind.u8 0, AV.int IntKind.u8 0, AV.int IntKind.u8 0, AV.int IntKind.u8 0, AV.int IntKind.u8 0, AV.int IntKind.u8 0, AV.int IntKind.u8 0, AV.int IntKind.u8 0, AV.int IntKind.u8 0, AV.int IntKind.u8 0, AV.int IntKind.u8 0, AV.int IntKind.u8 0, AV.int IntKind.u8 0, AV.int IntKind.i64 0] true true [CK.int IntKind.u8, CK.int IntKind.u8, CK.int IntKind.u8, CK.int IntKind.u8, CK.int IntKind.u8, CK.int IntKind.u8, CK.int IntKind.u8, CK.int IntKind.u8, CK.int IntKind.u8, CK.int IntKind.u8, CK.int IntKind.u8, CK.int IntKind.u8, CK.int IntKind.u8, CK.int IntKind.u8, CK.int IntKind.u8, CK.int IntKind.u8, CK.int IntKind.i64]), some (TI.mk (TypeDesc.array 4 5) 4 4 [AV.int IntKind.u8 0, AV.int IntKind.u8 0, AV.int IntKind.u8 0, AV.int IntKind.u8 0] true true [CK.int IntKind.u8, CK.int IntKind.u8, CK.int IntKind.u8, CK.int IntKind.u8]), some (TI.mk (TypeDesc.array 4 5) 4 4 [AV.int IntKind.u8 0, AV.int IntKind.u8 0, AV.int IntKind.u8 0, AV.int IntKind.u8 0] true true [CK.int IntKind.u8, CK.int IntKind.u8, CK.int IntKind.u8, CK.int IntKind.u8]), some (TI.mk (TypeDesc.struct (Array.mk [Field.mk "Addr" 27 0 false "" "" 0, Field.mk "Len" 3 4 false "" "" 8])) 5 16 [AV.int IntKind.u8 0, AV.int IntKind.u8 0, AV.int IntKind.u8 0, AV.int IntKind.u8 0, AV.int IntKind.i64 0] true true [CK.int IntKind.u8, CK.int IntKind.u8, CK.int IntKind.u8, CK.int IntKind.u8, CK.int IntKind.i64]), some (TI.mk (TypeDesc.struct (Array.mk [Field.mk "Addr" 27 0 false "" "" 0, Field.mk "Len" 3 4 false "" "" 8])) 5 16 [AV.int IntKind.u8 0, AV.int IntKind.u8 0, AV.int IntKind.u8 0, AV.int IntKind.u8 0, AV.int IntKind.i64 0] true true [CK.int IntKind.u8, CK.int IntKind.u8, CK.int IntKind.u8, CK.int IntKind.u8, CK.int IntKind.i64]), some (TI.mk (TypeDesc.int IntKind.i64) 1 8 [AV.int IntKind.i64 0] true true [CK.int IntKind.i64]), none, some (TI.mk (TypeDesc.func (Array.mk [25, 29]) (Array.mk [25, 30]) false) 1 8 [AV.nilf] true false [CK.other]), some (TI.mk (TypeDesc.func (Array.mk []) (Array.mk [4]) false) 1 8 [AV.nilf] true false [CK.other]), some (TI.mk (TypeDesc.func (Array.mk [25, 29]) (Array.mk [4]) false) 1 8 [AV.nilf] true false [CK.other]), none, some (TI.mk (TypeDesc.func (Array.mk [25, 27]) (Array.mk [23, 30]) false) 1 8 [AV.nilf] true false [CK.other]), none, some (TI.mk (TypeDesc.func (Array.mk [25, 23]) (Array.mk [4, 30]) false) 1 8 [AV.nilf] true false [CK.other]), some (TI.mk (TypeDesc.func (Array.mk [29, 27]) (Array.mk [4, 30]) false) 1 8 [AV.nilf] true false [CK.other]), some (TI.mk (TypeDesc.func (Array.mk [25, 29, 27]) (Array.mk [4]) false) 1 8 [AV.nilf] true false [CK.other]), some (TI.mk (TypeDesc.func (Array.mk [27]) (Array.mk [4]) false) 1 8 [AV.nilf] true false [CK.other]), some (TI.mk (TypeDesc.func (Array.mk []) (Array.mk [25]) false) 1 8 [AV.nilf] true false [CK.other]), none, some (TI.mk (TypeDesc.func (Array.mk [25, 27, 27]) (Array.mk [23, 23, 30]) false) 1 8 [AV.nilf] true false [CK.other]), some (TI.mk (TypeDesc.func (Array.mk [25]) (Array.mk [30]) false) 1 8 [AV.nilf] true false [CK.other]), some (TI.mk (TypeDesc.func (Array.mk [25, 27, 27]) (Array.mk [4]) false) 1 8 [AV.nilf] true false [CK.other]), none, some (TI.mk (TypeDesc.func (Array.mk [25, 23]) (Array.mk [27, 30]) false) 1 8 [AV.nilf] true false [CK.other]), some (TI.mk (TypeDesc.func (Array.mk [25, 23]) (Array.mk [4]) false) 1 8 [AV.nilf] true false [CK.other]), some (TI.mk (TypeDesc.func (Array.mk [25, 27, 27, 23]) (Array.mk [4]) false) 1 8 [AV.nilf] true false [CK.other]), some (TI.mk (TypeDesc.func (Array.mk [29]) (Array.mk [30]) false) 1 8 [AV.nilf] true false [CK.other]), none, some (TI.mk (TypeDesc.func (Array.mk [9]) (Array.mk [25, 3, 30]) false) 1 8 [AV.nilf] true false [CK.other]), none, some (TI.mk (TypeDesc.func (Array.mk [9]) (Array.mk [27, 3, 30]) false) 1 8 [AV.nilf] true false [CK.other]), some (TI.mk (TypeDesc.func (Array.mk [23]) (Array.mk [9]) false) 1 8 [AV.nilf] true false [CK.other]), some (TI.mk (TypeDesc.array 4 3) 4 32 [AV.int IntKind.i64 0, AV.int IntKind.i64 0, AV.int IntKind.i64 0, AV.int IntKind.i64 0] true true [CK.int IntKind.i64, CK.int IntKind.i64, CK.int IntKind.i64, CK.int IntKind.i64]), none, some (TI.mk (TypeDesc.func (Array.mk [3]) (Array.mk [57, 3]) false) 1 8 [AV.nilf] true false [CK.other]), some (TI.mk (TypeDesc.func (Array.mk [23, 3]) (Array.mk [25, 30]) false) 1 8 [AV.nilf] true false [CK.other]), none, some (TI.mk (TypeDesc.func (Array.mk [27, 3]) (Array.mk [29, 30]) false) 1 8 [AV.nilf] true false [CK.other]), some (TI.mk (TypeDesc.slice 29) 1 24 [AV.fs 5 [] SF.nil] true false [CK.slice 5]), some (TI.mk (TypeDesc.slice 9) 1 24 [AV.fs 1 [] SF.nil] true false [CK.slice 1]), none, some (TI.mk (TypeDesc.func (Array.mk [9]) (Array.mk [29, 3, 30]) false) 1 8 [AV.nilf] true false [CK.other]), some (TI.mk (TypeDesc.func (Array.mk [3, 3]) (Array.mk [3]) false) 1 8 [AV.nilf] true false [CK.other]), some (TI.mk (TypeDesc.func (Array.mk [23, 3]) (Array.mk [4]) false) 1 8 [AV.nilf] true false [CK.other]), some (TI.mk (TypeDesc.func (Array.mk [70, 3]) (Array.mk [4]) false) 1 8 [AV.nilf] true false [CK.other]), some (TI.mk (TypeDesc.slice 5) 1 24 [AV.fs 1 [] SF.nil] true false [CK.slice 1]), some (TI.mk (TypeDesc.func (Array.mk [27, 3]) (Array.mk [4]) false) 1 8 [AV.nilf] true false [CK.other]), some (TI.mk (TypeDesc.func (Array.mk [9]) (Array.mk [3]) false) 1 8 [AV.nilf] true false [CK.other]), none, some (TI.mk (TypeDesc.func (Array.mk [9]) (Array.mk [23, 3, 30]) false) 1 8 [AV.nilf] true false [CK.other]), some (TI.mk (TypeDesc.func (Array.mk [9, 3]) (Array.mk [3]) false) 1 8 [AV.nilf] true false [CK.other]), some (TI.mk (TypeDesc.func (Array.mk [9]) (Array.mk [4]) false) 1 8 [AV.nilf] true false [CK.other]), some (TI.mk (TypeDesc.func (Array.mk [9, 5]) (Array.mk [64]) false) 1 8 [AV.nilf] true false [CK.other]), some (TI.mk (TypeDesc.slice 3) 1 24 [AV.fs 1 [] SF.nil] true false [CK.slice 1]), some (TI.mk (TypeDesc.func (Array.mk [78, 3]) (Array.mk [3]) false) 1 8 [AV.nilf] true false [CK.other]), some (TI.mk (TypeDesc.func (Array.mk [2, 3]) (Array.mk [9]) false) 1 8 [AV.nilf] true false [CK.other]), some (TI.mk (TypeDesc.func (Array.mk [70, 70, 3]) (Array.mk [4]) false) 1 8 [AV.nilf] true false [CK.other]), some (TI.mk (TypeDesc.struct (Array.mk [Field.mk "L" 78 0 false "" "" 0, Field.mk "Gap" 3 1 false "" "" 24, Field.mk "Part" 9 2 false "" "" 32])) 3 48 [AV.fs 1 [] SF.nil, AV.int IntKind.i64 0, AV.str (ByteArray.mk (Array.mk []))] true false [CK.slice 1, CK.int IntKind.i64, CK.str]), some (TI.mk (TypeDesc.struct (Array.mk [Field.mk "L" 78 0 false "" "" 0, Field.mk "Gap" 3 1 false "" "" 24, Field.mk "Part" 9 2 false "" "" 32])) 3 48 [AV.fs 1 [] SF.nil, AV.int IntKind.i64 0, AV.str (ByteArray.mk (Array.mk []))] true false [CK.slice 1, CK.int IntKind.i64, CK.str]), none, some (TI.mk (TypeDesc.func (Array.mk [9]) (Array.mk [83, 3]) false) 1 8 [AV.nilf] true false [CK.other]), none, some (TI.mk (TypeDesc.func (Array.mk [9, 83]) (Array.mk [78, 4]) false) 1 8 [AV.nilf] true false [CK.other]), some (TI.mk (TypeDesc.func (Array.mk [9, 3]) (Array.mk [4]) false) 1 8 [AV.nilf] true false [CK.other]), some (TI.mk (TypeDesc.func (Array.mk []) (Array.mk [3]) false) 1 8 [AV.nilf] true false [CK.other]), some (TI.mk (TypeDesc.func (Array.mk [5]) (Array.mk [4]) false) 1 8 [AV.nilf] true false [CK.other]), some (TI.mk (TypeDesc.func (Array.mk [3]) (Array.mk [9]) false) 1 8 [AV.nilf] true false [CK.other]), some (TI.mk (TypeDesc.array 24 5) 24 24 [AV.int IntKind.u8 0, AV.int IntKind.u8 0, AV.int IntKind.u8 0, AV.int IntKind.u8 0, AV.int IntKind.u8 0, AV.int IntKind.u8 0, AV.int IntKind.u8 0, AV.int IntKind.u8 0, AV.int IntKind.u8 0, AV.int IntKind.u8 0, AV.int IntKind.u8 0, AV.int IntKind.u8 0, AV.int IntKind.u8 0, AV.int IntKind.u8 0, AV.int IntKind.u8 0, AV.int IntKind.u8 0, AV.int IntKind.u8 0, AV.int IntKind.u8 0, AV.int IntKind.u8 0, AV.int IntKind.u8 0, AV.int IntKind.u8 0, AV.int IntKind.u8 0, AV.int IntKind.u8 0, AV.int IntKind.u8 0] true true [CK.int IntKind.u8, CK.int IntKind.u8, CK.int IntKind.u8, CK.int IntKind.u8, CK.int IntKind.u8, CK.int IntKind.u8, CK.int IntKind.u8, CK.int IntKind.u8, CK.int IntKind.u8, CK.int IntKind.u8, CK.int IntKind.u8, CK.int IntKind.u8, CK.int IntKind.u8, CK.int IntKind.u8, CK.int IntKind.u8, CK.int IntKind.u8, CK.int IntKind.u8, CK.int IntKind.u8, CK.int IntKind.u8, CK.int IntKind.u8, CK.int IntKind.u8, CK.int IntKind.u8, CK.int IntKind.u8, CK.int IntKind.u8]), some (TI.mk (TypeDesc.int IntKind.u64) 1 8 [AV.int IntKind.u64 0] true true [CK.int IntKind.u64]), some (TI.mk (TypeDesc.func (Array.mk [93]) (Array.mk [3]) false) 1 8 [AV.nilf] true false [CK.other]), some (TI.mk (TypeDesc.func (Array.mk [70, 93]) (Array.mk []) false) 1 8 [AV.nilf] true false [CK.other]), none, some (TI.mk (TypeDesc.func (Array.mk [70, 93, 3, 4, 4]) (Array.mk [70, 9]) false) 1 8 [AV.nilf] true false [CK.other]), some (TI.mk (TypeDesc.func (Array.mk [5]) (Array.mk [3]) false) 1 8 [AV.nilf] true false [CK.other]), some (TI.mk (TypeDesc.func (Array.mk [3]) (Array.mk [3]) false) 1 8 [AV.nilf] true false [CK.other]), some (TI.mk (TypeDesc.func (Array.mk [4]) (Array.mk [3]) false) 1 8 [AV.nilf] true false [CK.other]), some (TI.mk (TypeDesc.array 20 93) 20 160 [AV.int IntKind.u64 0, AV.int IntKind.u64 0, AV.int IntKind.u64 0, AV.int IntKind.u64 0, AV.int IntKind.u64 0, AV.int IntKind.u64 0, AV.int IntKind.u64 0, AV.int IntKind.u64 0, AV.int IntKind.u64 0, AV.int IntKind.u64 0, AV.int IntKind.u64 0, AV.int IntKind.u64 0, AV.int IntKind.u64 0, AV.int IntKind.u64 0, AV.int IntKind.u64 0, AV.int IntKind.u64 0, AV.int IntKind.u64 0, AV.int IntKind.u64 0, AV.int IntKind.u64 0, AV.int IntKind.u64 0] true true [CK.int IntKind.u64, CK.int IntKind.u64, CK.int IntKind.u64, CK.int IntKind.u64, CK.int IntKind.u64, CK.int IntKind.u64, CK.int IntKind.u64, CK.int IntKind.u64, CK.int IntKind.u64, CK.int IntKind.u64, CK.int IntKind.u64, CK.int IntKind.u64, CK.int IntKind.u64, CK.int IntKind.u64, CK.int IntKind.u64, CK.int IntKind.u64, CK.int IntKind.u64, CK.int IntKind.u64, CK.int IntKind.u64, CK.int IntKind.u64]), some (TI.mk (TypeDesc.int IntKind.u32) 1 4 [AV.int IntKind.u32 0] true true [CK.int IntKind.u32]), some (TI.mk (TypeDesc.array 65 5) 65 65 [AV.int IntKind.u8 0, AV.int IntKind.u8 0, AV.int IntKind.u8 0, AV.int IntKind.u8 0, AV.int IntKind.u8 0, AV.int IntKind.u8 0, AV.int IntKind.u8 0, AV.int IntKind.u8 0, AV.int IntKind.u8 0, AV.int IntKind.u8 0, AV.int IntKind.u8 0, AV.int IntKind.u8 0, AV.int IntKind.u8 0, AV.int IntKind.u8 0, AV.int IntKind.u8 0, AV.int IntKind.u8 0, AV.int IntKind.u8 0, AV.int IntKind.u8 0, AV.int IntKind.u8 0, AV.int IntKind.u8 0, AV.int IntKind.u8 0, AV.int IntKind.u8 0, AV.int IntKind.u8 0, AV.int IntKind.u8 0, AV.int IntKind.u8 0, AV.int IntKind.u8 0, AV.int IntKind.u8 0, AV.int IntKind.u8 0, AV.int IntKind.u8 0, AV.int IntKind.u8 0, AV.int IntKind.u8 0, AV.int IntKind.u8 0, AV.int IntKind.u8 0, AV.int IntKind.u8 0, AV.int IntKind.u8 0, AV.int IntKind.u8 0, AV.int IntKind.u8 0, AV.int IntKind.u8 0, AV.int IntKind.u8 0, AV.int IntKind.u8 0, AV.int IntKind.u8 0, AV.int IntKind.u8 0, AV.int IntKind.u8 0, AV.int IntKind.u8 0, AV.int IntKind.u8 0, AV.int IntKind.u8 0, AV.int IntKind.u8 0, AV.int IntKind.u8 0, AV.int IntKind.u8 0, AV.int IntKind.u8 0, AV.int IntKind.u8 0, AV.int IntKind.u8 0, AV.int IntKind.u8 0, AV.int IntKind.u8 0, AV.int IntKind.u8 0, AV.int IntKind.u8 0, AV.int IntKind.u8 0, AV.int IntKind.u8 0, AV.int IntKind.u8 0, AV.int IntKind.u8 0, AV.int IntKind.u8 0, AV.int IntKind.u8 0, AV.int IntKind.u8 0, AV.int IntKind.u8 0, AV.int IntKind.u8 0] true true [CK.int IntKind.u8, CK.int IntKind.u8, CK.int IntKind.u8, CK.int IntKind.u8, CK.int IntKind.u8, CK.int IntKind.u8, CK.int IntKind.u8, CK.int IntKind.u8, CK.int IntKind.u8, CK.int IntKind.u8, CK.int IntKind.u8, CK.int IntKind.u8, CK.int IntKind.u8, CK.int IntKind.u8, CK.int IntKind.u8, CK.int IntKind.u8, CK.int IntKind.u8, CK.int IntKind.u8, CK.int IntKind.u8, CK.int IntKind.u8, CK.int IntKind.u8, CK.int IntKind.u8, CK.int IntKind.u8, CK.int IntKind.u8, CK.int IntKind.u8, CK.int IntKind.u8, CK.int IntKind.u8, CK.int IntKind.u8, CK.int IntKind.u8, CK.int IntKind.u8, CK.int IntKind.u8, CK.int IntKind.u8, CK.int IntKind.u8, CK.int IntKind.u8, CK.int IntKind.u8, CK.int IntKind.u8, CK.int IntKind.u8, CK.int IntKind.u8, CK.int IntKind.u8, CK.int IntKind.u8, CK.int IntKind.u8, CK.int IntKind.u8, CK.int IntKind.u8, CK.int IntKind.u8, CK.int IntKind.u8, CK.int IntKind.u8, CK.int IntKind.u8, CK.int IntKind.u8, CK.int IntKind.u8, CK.int IntKind.u8, CK.int IntKind.u8, CK.int IntKind.u8, CK.int IntKind.u8, CK.int IntKind.u8, CK.int IntKind.u8, CK.int IntKind.u8, CK.int IntKind.u8, CK.int IntKind.u8, CK.int IntKind.u8, CK.int IntKind.u8, CK.int IntKind.u8, CK.int IntKind.u8, CK.int IntKind.u8, CK.int IntKind.u8, CK.int IntKind.u8]), some (TI.mk (TypeDesc.func (Array.mk [3]) (Array.mk [4]) false) 1 8 [AV.nilf] true false [CK.other]), some (TI.mk (TypeDesc.int IntKind.u64) 1 8 [AV.int IntKind.u64 0] true true [CK.int IntKind.u64]), some (TI.mk (TypeDesc.func (Array.mk [105]) (Array.mk [3]) false) 1 8 [AV.nilf] true false [CK.other]), some (TI.mk (TypeDesc.func (Array.mk [102]) (Array.mk [3]) false) 1 8 [AV.nilf] true false [CK.other]), some (TI.mk (TypeDesc.array 32 5) 32 32 [AV.int IntKind.u8 0, AV.int IntKind.u8 0, AV.int IntKind.u8 0, AV.int IntKind.u8 0, AV.int IntKind.u8 0, AV.int IntKind.u8 0, AV.int IntKind.u8 0, AV.int IntKind.u8 0, AV.int IntKind.u8 0, AV.int IntKind.u8 0, AV.int IntKind.u8 0, AV.int IntKind.u8 0, AV.int IntKind.u8 0, AV.int IntKind.u8 0, AV.int IntKind.u8 0, AV.int IntKind.u8 0, AV.int IntKind.u8 0, AV.int IntKind.u8 0, AV.int IntKind.u8 0, AV.int IntKind.u8 0, AV.int IntKind.u8 0, AV.int IntKind.u8 0, AV.int IntKind.u8 0, AV.int IntKind.u8 0, AV.int IntKind.u8 0, AV.int IntKind.u8 0, AV.int IntKind.u8 0, AV.int IntKind.u8 0, AV.int IntKind.u8 0, AV.int IntKind.u8 0, AV.int IntKind.u8 0, AV.int IntKind.u8 0] true true [CK.int IntKind.u8, CK.int IntKind.u8, CK.int IntKind.u8, CK.int IntKind.u8, CK.int IntKind.u8, CK.int IntKind.u8, CK.int IntKind.u8, CK.int IntKind.u8, CK.int IntKind.u8, CK.int IntKind.u8, CK.int IntKind.u8, CK.int IntKind.u8, CK.int IntKind.u8, CK.int IntKind.u8, CK.int IntKind.u8, CK.int IntKind.u8, CK.int IntKind.u8, CK.int IntKind.u8, CK.int IntKind.u8, CK.int IntKind.u8, CK.int IntKind.u8, CK.int IntKind.u8, CK.int IntKind.u8, CK.int IntKind.u8, CK.int IntKind.u8, CK.int IntKind.u8, CK.int IntKind.u8, CK.int IntKind.u8, CK.int IntKind.u8, CK.int IntKind.u8, CK.int IntKind.u8, CK.int IntKind.u8]), some (TI.mk (TypeDesc.array 64 5) 64 64 [AV.int IntKind.u8 0, AV.int IntKind.u8 0, AV.int IntKind.u8 0, AV.int IntKind.u8 0, AV.int IntKind.u8 0, AV.int IntKind.u8 0, AV.int IntKind.u8 0, AV.int IntKind.u8 0, AV.int IntKind.u8 0, AV.int IntKind.u8 0, AV.int IntKind.u8 0, AV.int IntKind.u8 0, AV.int IntKind.u8 0, AV.int IntKind.u8 0, AV.int IntKind.u8 0, AV.int IntKind.u8 0, AV.int IntKind.u8 0, AV.int IntKind.u8 0, AV.int IntKind.u8 0, AV.int IntKind.u8 0, AV.int IntKind.u8 0, AV.int IntKind.u8 0, AV.int IntKind.u8 0, AV.int IntKind.u8 0, AV.int IntKind.u8 0, AV.int IntKind.u8 0, AV.int IntKind.u8 0, AV.int IntKind.u8 0, AV.int IntKind.u8 0, AV.int IntKind.u8 0, AV.int IntKind.u8 0, AV.int IntKind.u8 0, AV.int IntKind.u8 0, AV.int IntKind.u8 0, AV.int IntKind.u8 0, AV.int IntKind.u8 0, AV.int IntKind.u8 0, AV.int IntKind.u8 0, AV.int IntKind.u8 0, AV.int IntKind.u8 0, AV.int IntKind.u8 0, AV.int IntKind.u8 0, AV.int IntKind.u8 0, AV.int IntKind.u8 0, AV.int IntKind.u8 0, AV.int IntKind.u8 0, AV.int IntKind.u8 0, AV.int IntKind.u8 0, AV.int IntKind.u8 0, AV.int IntKind.u8 0, AV.int IntKind.u8 0, AV.int IntKind.u8 0, AV.int IntKind.u8 0, AV.int IntKind.u8 0, AV.int IntKind.u8 0, AV.int IntKind.u8 0, AV.int IntKind.u8 0, AV.int IntKind.u8 0, AV.int IntKind.u8 0, AV.int IntKind.u8 0, AV.int IntKind.u8 0, AV.int IntKind.u8 0, AV.int IntKind.u8 0, AV.int IntKind.u8 0] true true [CK.int IntKind.u8, CK.int IntKind.u8, CK.int IntKind.u8, CK.int IntKind.u8, CK.int IntKind.u8, CK.int IntKind.u8, CK.int IntKind.u8, CK.int IntKind.u8, CK.int IntKind.u8, CK.int IntKind.u8, CK.int IntKind.u8, CK.int IntKind.u8, CK.int IntKind.u8, CK.int IntKind.u8, CK.int IntKind.u8, CK.int IntKind.u8, CK.int IntKind.u8, CK.int IntKind.u8, CK.int IntKind.u8, CK.int IntKind.u8, CK.int IntKind.u8, CK.int IntKind.u8, CK.int IntKind.u8, CK.int IntKind.u8, CK.int IntKind.u8, CK.int IntKind.u8, CK.int IntKind.u8, CK.int IntKind.u8, CK.int IntKind.u8, CK.int IntKind.u8, CK.int IntKind.u8, CK.int IntKind.u8, CK.int IntKind.u8, CK.int IntKind.u8, CK.int IntKind.u8, CK.int IntKind.u8, CK.int IntKind.u8, CK.int IntKind.u8, CK.int IntKind.u8, CK.int IntKind.u8, CK.int IntKind.u8, CK.int IntKind.u8, CK.int IntKind.u8, CK.int IntKind.u8, CK.int IntKind.u8, CK.int IntKind.u8, CK.int IntKind.u8, CK.int IntKind.u8, CK.int IntKind.u8, CK.int IntKind.u8, CK.int IntKind.u8, CK.int IntKind.u8, CK.int IntKind.u8, CK.int IntKind.u8, CK.int IntKind.u8, CK.int IntKind.u8, CK.int IntKind.u8, CK.int IntKind.u8, CK.int IntKind.u8, CK.int IntKind.u8, CK.int IntKind.u8, CK.int IntKind.u8, CK.int IntKind.u8, CK.int IntKind.u8]), some (TI.mk (TypeDesc.func (Array.mk []) (Array.mk [9]) false) 1 8 [AV.nilf] true false [CK.other]), some (TI.mk (TypeDesc.struct (Array.mk [Field.mk "_interface" 17 0 false "" "runtime" 0, Field.mk "concrete" 17 1 false "" "runtime" 8, Field.mk "asserted" 17 2 false "" "runtime" 16, Field.mk "missingMethod" 9 3 false "" "runtime" 24])) 4 40 [AV.nilp, AV.nilp, AV.nilp, AV.str (ByteArray.mk (Array.mk []))] false true [CK.other, CK.other, CK.other, CK.str]), some (TI.mk (TypeDesc.struct (Array.mk [Field.mk "_interface" 17 0 false "" "runtime" 0, Field.mk "concrete" 17 1 false "" "runtime" 8, Field.mk "asserted" 17 2 false "" "runtime" 16, Field.mk "missingMethod" 9 3 false "" "runtime" 24])) 4 40 [AV.nilp, AV.nilp, AV.nilp, AV.str (ByteArray.mk (Array.mk []))] false true [CK.other, CK.other, CK.other, CK.str]), some (TI.mk (TypeDesc.array 0 16) 0 0 [] true true []), some (TI.mk (TypeDesc.struct (Array.mk [Field.mk "_" 113 0 false "" "runtime" 0])) 0 0 [] false true []), some (TI.mk (TypeDesc.struct (Array.mk [Field.mk "_" 113 0 false "" "runtime" 0])) 0 0 [] false true []), some (TI.mk (TypeDesc.int IntKind.u8) 1 1 [AV.int IntKind.u8 0] true true [CK.int IntKind.u8]), some (TI.mk (TypeDesc.int IntKind.u8) 1 1 [AV.int IntKind.u8 0] true true [CK.int IntKind.u8]), some (TI.mk (TypeDesc.func (Array.mk [124, 124]) (Array.mk [4]) false) 1 8 [AV.nilf] true false [CK.other]), some (TI.mk (TypeDesc.pointer 5) 1 8 [AV.nilp] true true [CK.other]), some (TI.mk (TypeDesc.int IntKind.i32) 1 4 [AV.int IntKind.i32 0] true true [CK.int IntKind.i32]), some (TI.mk (TypeDesc.int IntKind.i32) 1 4 [AV.int IntKind.i32 0] true true [CK.int IntKind.i32]), some (TI.mk (TypeDesc.struct (Array.mk [Field.mk "Size_" 12 0 false "" "" 0, Field.mk "PtrBytes" 12 1 false "" "" 8, Field.mk "Hash" 102 2 false "" "" 16, Field.mk "TFlag" 116 3 false "" "" 20, Field.mk "Align_" 5 4 false "" "" 21, Field.mk "FieldAlign_" 5 5 false "" "" 22, Field.mk "Kind_" 117 6 false "" "" 23, Field.mk "Equal" 118 7 false "" "" 24, Field.mk "GCData" 119 8 false "" "" 32, Field.mk "Str" 120 9 false "" "" 40, Field.mk "PtrToThis" 121 10 false "" "" 44])) 11 48 [AV.int IntKind.u64 0, AV.int IntKind.u64 0, AV.int IntKind.u32 0, AV.int IntKind.u8 0, AV.int IntKind.u8 0, AV.int IntKind.u8 0, AV.int IntKind.u8 0, AV.nilf, AV.nilp, AV.int IntKind.i32 0, AV.int IntKind.i32 0] false false [CK.int IntKind.u64, CK.int IntKind.u64, CK.int IntKind.u32, CK.int IntKind.u8, CK.int IntKind.u8, CK.int IntKind.u8, CK.int IntKind.u8, CK.other, CK.other, CK.int IntKind.i32, CK.int IntKind.i32]), some (TI.mk (TypeDesc.struct (Array.mk [Field.mk "Size_" 12 0 false "" "" 0, Field.mk "PtrBytes" 12 1 false "" "" 8, Field.mk "Hash" 102 2 false "" "" 16, Field.mk "TFlag" 116 3 false "" "" 20, Field.mk "Align_" 5 4 false "" "" 21, Field.mk "FieldAlign_" 5 5 false "" "" 22, Field.mk "Kind_" 117 6 false "" "" 23, Field.mk "Equal" 118 7 false "" "" 24, Field.mk "GCData" 119 8 false "" "" 32, Field.mk "Str" 120 9 false "" "" 40, Field.mk "PtrToThis" 121 10 false "" "" 44])) 11 48 [AV.int IntKind.u64 0, AV.int IntKind.u64 0, AV.int IntKind.u32 0, AV.int IntKind.u8 0, AV.int IntKind.u8 0, AV.int IntKind.u8 0, AV.int IntKind.u8 0, AV.nilf, AV.nilp, AV.int IntKind.i32 0, AV.int IntKind.i32 0] false false [CK.int IntKind.u64, CK.int IntKind.u64, CK.int IntKind.u32, CK.int IntKind.u8, CK.int IntKind.u8, CK.int IntKind.u8, CK.int IntKind.u8, CK.other, CK.other, CK.int IntKind.i32, CK.int IntKind.i32]), some (TI.mk TypeDesc.unsafePointer 1 8 [AV.nilp] true true [CK.other])]
theorem E_ok : EnvOK Tryd.prog E := (show E = envOf Tryd.prog by kernel_rfl) ▸ envOf_ok _
theorem E_flds : FieldsOK E := fieldsB_ok (by kernel_rfl)
theorem mixed : Tryd.prog.follows .mixedOrders = true := by kernel_rfl
/-- ferryman/addr.low -/
noncomputable def T43 : List (FuncId × FSpec) := []
theorem T43_ok : TabOK Tryd.prog T43 := TabOK.nil _
noncomputable def L43_2 : ATs → AH → KC → Res := fun ts H k => match ts, H with
  | [(0, .fs 1 xs fl), (5, .int .i64 i)], [] => aIf (intsB .u8 xs && decide (xs.length ≤ 1000000) && decide (0 ≤ i) && decide (i ≤ 8 * (xs.length : Int))) (aIf (lowB xs i.toNat) (k (.exit 0) [(0, .fs 1 xs fl), (5, .int .i64 ((8 * xs.length : Nat) : Int)), (11, .bool false)] []) (k .ret [(4, .bool false)] [])) none
  | _, _ => none
noncomputable def C43 : Ctx := (ctx E T43 [(2, L43_2)] [(0, [0, 1]), (1, [0, 5]), (2, [0, 5, 11]), (3, [0, 5]), (4, [0, 5, 24]), (5, [4]), (6, [4]), (1000002, [0, 5])] [] 25 200)
theorem C43_ok : CtxOK Tryd.prog C43 := ctx_ok E_ok E_flds mixed T43_ok
theorem C43_l0 : C43.loop (loopId (loopB Tryd.f43 0)) = some L43_2 := by kernel_rfl
theorem L43_2_in : LoopsOK C43 (loopB Tryd.f43 0) := LoopsOK.within 0 (by kernel_rfl) (fun j hj S hS => by
  omega)
theorem M43_2a (xs : List AV) (fl : SF) (i : Int) (k : KC) : headedK C43 (loopB Tryd.f43 0) [(0, .fs 1 xs fl), (5, .int .i64 i)] [] k =
  aIf (decide (i < IntKind.i64.wrap (8 * (↑xs.length : Int)))) (aIf (decide (0 ≤ IntKind.i64.wrap (i.tdiv 8))) (aIf (decide (IntKind.i64.wrap (i.tdiv 8) < (↑xs.length : Int))) (aIf ((xs.getD (IntKind.i64.wrap (i.tdiv 8)).toNat AV.junk).cells.length == 1) (aIf (([(xs.getD (IntKind.i64.wrap (i.tdiv 8)).toNat AV.junk).cells.getD 0 AV.junk].getD 0 AV.junk).isInt IntKind.u8) (aIf (decide (IntKind.i64.wrap (7 - i.tmod 8) < 0)) none (aIf (IntKind.u8.wrap (↑(BitVec.ofInt 8 (([(xs.getD (IntKind.i64.wrap (i.tdiv 8)).toNat AV.junk).cells.getD 0 AV.junk].getD 0 AV.junk).toInt.fdiv (2 ^ min (IntKind.i64.wrap (7 - i.tmod 8)).toNat 8)) &&& BitVec.ofInt 8 1).toNat : Int) != 0) (k AExit.ret [(4, AV.bool false)] []) (k AExit.normal [(0, AV.fs 1 xs fl), (5, AV.int IntKind.i64 (IntKind.i64.wrap (i + 1)))] []))) none) none) none) none) (k (AExit.exit 0) [(0, AV.fs 1 xs fl), (5, AV.int IntKind.i64 i), (11, AV.bool (decide (i < IntKind.i64.wrap (8 * (↑xs.length : Int)))))] []) := by kernel_rfl
theorem L43_2_ok : LoopSum C43 (loopB Tryd.f43 0) L43_2 := LoopSum.of C43_ok L43_2_in (fun ts H => by
  unfold L43_2
  split
  · rename_i xs fl i
    rcases Bool.eq_false_or_eq_true (intsB .u8 xs && decide (xs.length ≤ 1000000) && decide (0 ≤ i) && decide (i ≤ 8 * (xs.length : Int))) with hp | hp
    · refine .inr ?_
      simp only [aIf_pos hp]
      simp only [Bool.and_eq_true, decide_eq_true_eq] at hp
      obtain ⟨⟨⟨hu, hL⟩, h0⟩, h1⟩ := hp
      obtain ⟨i, rfl⟩ := Int.eq_ofNat_of_zero_le h0
      have key : ∀ j : Nat, j < 8 * xs.length → ∀ k, headedK C43 (loopB Tryd.f43 0) [(0, .fs 1 xs fl), (5, .int .i64 (j : Int))] [] k = aIf (bitV xs j == 1) (k .ret [(4, .bool false)] []) (k .normal [(0, .fs 1 xs fl), (5, .int .i64 ((j + 1 : Nat) : Int))] []) := by
        intro j hj k
        obtain ⟨x, hx, he⟩ := u8_get hu (j / 8) (by omega)
        rw [M43_2a]
        simp only [wrap8 hL, dlt hj, div8 (show j < 9223372036854775808 by omega), sh7 j, dlt (show j / 8 < xs.length by omega), show min (7 - j % 8) 8 = 7 - j % 8 by omega, bit8 hx (show 7 - j % 8 < 8 by omega), bitNe he, he, i64s (show j + 1 < 9223372036854775808 by omega), Int.toNat_natCast, Nat.zero_add, Nat.mul_one, Int.one_mul, AV.cells, List.length_cons, List.length_nil, List.getD_cons_zero, Nat.reduceAdd, isInt_self, AV.toInt, beq_self_eq_true, dnn, dnn', aIf_true, aIf_false, shr_eq]
      rw [Int.toNat_natCast]
      exact (iter_scan (N := 8 * xs.length) (ts := fun j => [(0, .fs 1 xs fl), (5, .int .i64 (j : Int))]) (H := []) (b := fun j => bitV xs j == 1) (fun j hj hb k => (key j hj k).trans (aIf_pos hb)) (fun j hj hb k => (key j hj k).trans (aIf_neg hb))
        (fun k => by rw [M43_2a, wrap8 hL, dltf]; rfl) (by intro h; cases h) (by intro h; cases h) (8 * xs.length - i) i (by omega)).imp fun m hm k => (hm k).symm
    · exact .inl fun k => by rw [aIf_neg hp]
  · exact .inl fun k => rfl)
theorem C43_loops : ∀ c, Tryd.f43.body = some c → LoopsOK C43 c := LoopsOK.of 1 (by kernel_rfl) (fun j hj S hS => by
  match j, hj with
  | 0, _ => rw [C43_l0] at hS; cases hS; exact L43_2_ok
  | n + 1, hj => omega)
noncomputable def S43 : FSpec := inlineK C43 Tryd.f43
theorem S43_ok : SpecOK Tryd.prog 43 S43 := inlineK_ok C43_ok Tryd.func43 C43_loops
theorem En43 : Enters Tryd.prog 43 := ⟨_, Tryd.func43, by decide, rfl⟩
noncomputable def R43 (args : List AV) : Res := S43 args [] encK
noncomputable def V43 : FSpec := leafK (.bool) R43
theorem V43_ok : SpecOK Tryd.prog 43 V43 := leafK_ok S43_ok (fun _ => rfl)
theorem N43 (xs : List AV) (fl : SF) (i : Int) : S43 [.fs 1 xs fl, .int .i64 i] [] encK =
  aIf (intsB IntKind.u8 xs && decide (xs.length ≤ 1000000) && decide (0 ≤ i) && decide (i ≤ 8 * (↑xs.length : Int))) (aIf (Pl.lowB xs i.toNat) (some (AEnd.ret (AV.bool true), [])) (some (AEnd.ret (AV.bool false), []))) none := by kernel_rfl
theorem R43_is {xs : List AV} {fl : SF} {i : Int} (hu : intsB .u8 xs = true) (hL : xs.length ≤ 1000000) (h0 : 0 ≤ i) (h1 : i ≤ 8 * (xs.length : Int)) : R43 [.fs 1 xs fl, .int .i64 i] = some (.ret (.bool (lowB xs i.toNat)), []) := by
  show S43 _ [] encK = _
  rw [N43, hu, decide_eq_true hL, decide_eq_true h0, decide_eq_true h1]
  cases lowB xs i.toNat <;> rfl

/-- ferryman/addr.Check6 -/
noncomputable def T40 : List (FuncId × FSpec) := [(43, V43)]
theorem T40_ok : TabOK Tryd.prog T40 := TabOK.cons En43 V43_ok (TabOK.nil _)
noncomputable def C40 : Ctx := (ctx E T40 [] [(0, [1]), (1, [18]), (2, [2]), (3, [2])] [1000043] 19 70)
theorem C40_ok : CtxOK Tryd.prog C40 := ctx_ok E_ok E_flds mixed T40_ok
noncomputable def S40 : FSpec := inlineK C40 Tryd.f40
theorem S40_ok : SpecOK Tryd.prog 40 S40 := inlineK_ok C40_ok Tryd.func40 (fun _ _ => LoopsOK.none _)
theorem En40 : Enters Tryd.prog 40 := ⟨_, Tryd.func40, by decide, rfl⟩
noncomputable def R40 (args : List AV) : Res := S40 args [] encK
noncomputable def V40 : FSpec := leafK (.int .i64) R40
theorem V40_ok : SpecOK Tryd.prog 40 V40 := leafK_ok S40_ok (fun _ => rfl)
theorem N40 (x : Nat → Int) (n : Int) : S40 [.agg [.int .u8 (x 0), .int .u8 (x 1), .int .u8 (x 2), .int .u8 (x 3), .int .u8 (x 4), .int .u8 (x 5), .int .u8 (x 6), .int .u8 (x 7), .int .u8 (x 8), .int .u8 (x 9), .int .u8 (x 10), .int .u8 (x 11), .int .u8 (x 12), .int .u8 (x 13), .int .u8 (x 14), .int .u8 (x 15), .int .i64 n]] [] encK =
  aIf (decide (n < 0)) (some (AEnd.ret (AV.int IntKind.i64 22), [])) (aIf (decide (n > 128)) (some (AEnd.ret (AV.int IntKind.i64 22), [])) (aIf (shOK Sh.bool (R43 [AV.fs 1 [AV.int IntKind.u8 (x 0), AV.int IntKind.u8 (x 1), AV.int IntKind.u8 (x 2), AV.int IntKind.u8 (x 3), AV.int IntKind.u8 (x 4), AV.int IntKind.u8 (x 5), AV.int IntKind.u8 (x 6), AV.int IntKind.u8 (x 7), AV.int IntKind.u8 (x 8), AV.int IntKind.u8 (x 9), AV.int IntKind.u8 (x 10), AV.int IntKind.u8 (x 11), AV.int IntKind.u8 (x 12), AV.int IntKind.u8 (x 13), AV.int IntKind.u8 (x 14), AV.int IntKind.u8 (x 15)] SF.any, AV.int IntKind.i64 n])) (aIf (!(sel (R43 [AV.fs 1 [AV.int IntKind.u8 (x 0), AV.int IntKind.u8 (x 1), AV.int IntKind.u8 (x 2), AV.int IntKind.u8 (x 3), AV.int IntKind.u8 (x 4), AV.int IntKind.u8 (x 5), AV.int IntKind.u8 (x 6), AV.int IntKind.u8 (x 7), AV.int IntKind.u8 (x 8), AV.int IntKind.u8 (x 9), AV.int IntKind.u8 (x 10), AV.int IntKind.u8 (x 11), AV.int IntKind.u8 (x 12), AV.int IntKind.u8 (x 13), AV.int IntKind.u8 (x 14), AV.int IntKind.u8 (x 15)] SF.any, AV.int IntKind.i64 n]) []).toBool) (some (AEnd.ret (AV.int IntKind.i64 22), [])) (some (AEnd.ret (AV.int IntKind.i64 0), []))) none)) := by kernel_rfl
theorem R40_is {x : Nat → Int} {n : Int} (hx : b8 x) : R40 [.agg [.int .u8 (x 0), .int .u8 (x 1), .int .u8 (x 2), .int .u8 (x 3), .int .u8 (x 4), .int .u8 (x 5), .int .u8 (x 6), .int .u8 (x 7), .int .u8 (x 8), .int .u8 (x 9), .int .u8 (x 10), .int .u8 (x 11), .int .u8 (x 12), .int .u8 (x 13), .int .u8 (x 14), .int .u8 (x 15), .int .i64 n]] = some (.ret (.int .i64 (chkE 128 [.int .u8 (x 0), .int .u8 (x 1), .int .u8 (x 2), .int .u8 (x 3), .int .u8 (x 4), .int .u8 (x 5), .int .u8 (x 6), .int .u8 (x 7), .int .u8 (x 8), .int .u8 (x 9), .int .u8 (x 10), .int .u8 (x 11), .int .u8 (x 12), .int .u8 (x 13), .int .u8 (x 14), .int .u8 (x 15)] n)), []) := by
  show S40 _ [] encK = _
  have ti : ∀ k n, (AV.int k n).toInt = n := fun _ _ => rfl
  have tb : ∀ b, (AV.bool b).toBool = b := fun _ => rfl
  have si : ∀ k n, sel (some (AEnd.ret (AV.int k n), [])) [] = .int k n := fun _ _ => rfl
  have sb : ∀ b, sel (some (AEnd.ret (AV.bool b), [])) [] = .bool b := fun _ => rfl
  rw [N40]
  unfold chkE
  cases h1 : decide (n < 0)
  · cases h2 : decide (n > 128)
    · have g1 := of_decide_eq_false h1
      have g2 := of_decide_eq_false h2
      have e := R43_is (fl := .any) (b8_16 hx) (show 16 ≤ 1000000 by decide) (i := n) (by omega) (show n ≤ 8 * ((16 : Nat) : Int) by omega)
      simp only [e, shOK_ret, has_bool, sb, tb, aIf_true, aIf_false, cond_false]
      cases lowB [.int .u8 (x 0), .int .u8 (x 1), .int .u8 (x 2), .int .u8 (x 3), .int .u8 (x 4), .int .u8 (x 5), .int .u8 (x 6), .int .u8 (x 7), .int .u8 (x 8), .int .u8 (x 9), .int .u8 (x 10), .int .u8 (x 11), .int .u8 (x 12), .int .u8 (x 13), .int .u8 (x 14), .int .u8 (x 15)] n.toNat <;> rfl
    · rfl
  · rfl

/-- ferryman/embed.Check -/
noncomputable def T22 : List (FuncId × FSpec) := [(40, V40)]
theorem T22_ok : TabOK Tryd.prog T22 := TabOK.cons En40 V40_ok (TabOK.nil _)
noncomputable def C22 : Ctx := (ctx E T22 [] [(0, [1]), (1, [1, 3]), (2, [1, 3, 7]), (3, [2]), (4, [1, 10]), (5, [2]), (6, [1, 10, 11]), (7, [1, 10, 11]), (8, [1, 10, 11]), (9, [1, 10, 11]), (10, [1, 10, 11]), (11, [1, 11]), (12, [21]), (13, [2]), (14, [2])] [] 22 70)
theorem C22_ok : CtxOK Tryd.prog C22 := ctx_ok E_ok E_flds mixed T22_ok
noncomputable def S22 : FSpec := inlineK C22 Tryd.f22
theorem S22_ok : SpecOK Tryd.prog 22 S22 := inlineK_ok C22_ok Tryd.func22 (fun _ _ => LoopsOK.none _)
theorem En22 : Enters Tryd.prog 22 := ⟨_, Tryd.func22, by decide, rfl⟩
noncomputable def R22 (args : List AV) : Res := S22 args [] encK
noncomputable def V22 : FSpec := leafK (.int .i64) R22
theorem V22_ok : SpecOK Tryd.prog 22 V22 := leafK_ok S22_ok (fun _ => rfl)
theorem N22 (x : Nat → Int) (n : Int) : S22 [.agg [.int .u8 (x 0), .int .u8 (x 1), .int .u8 (x 2), .int .u8 (x 3), .int .u8 (x 4), .int .u8 (x 5), .int .u8 (x 6), .int .u8 (x 7), .int .u8 (x 8), .int .u8 (x 9), .int .u8 (x 10), .int .u8 (x 11), .int .u8 (x 12), .int .u8 (x 13), .int .u8 (x 14), .int .u8 (x 15), .int .i64 n]] [] encK =
  aIf (shOK (Sh.int IntKind.i64) (R40 [AV.agg [AV.int IntKind.u8 (x 0), AV.int IntKind.u8 (x 1), AV.int IntKind.u8 (x 2), AV.int IntKind.u8 (x 3), AV.int IntKind.u8 (x 4), AV.int IntKind.u8 (x 5), AV.int IntKind.u8 (x 6), AV.int IntKind.u8 (x 7), AV.int IntKind.u8 (x 8), AV.int IntKind.u8 (x 9), AV.int IntKind.u8 (x 10), AV.int IntKind.u8 (x 11), AV.int IntKind.u8 (x 12), AV.int IntKind.u8 (x 13), AV.int IntKind.u8 (x 14), AV.int IntKind.u8 (x 15), AV.int IntKind.i64 n]])) (aIf ((sel (R40 [AV.agg [AV.int IntKind.u8 (x 0), AV.int IntKind.u8 (x 1), AV.int IntKind.u8 (x 2), AV.int IntKind.u8 (x 3), AV.int IntKind.u8 (x 4), AV.int IntKind.u8 (x 5), AV.int IntKind.u8 (x 6), AV.int IntKind.u8 (x 7), AV.int IntKind.u8 (x 8), AV.int IntKind.u8 (x 9), AV.int IntKind.u8 (x 10), AV.int IntKind.u8 (x 11), AV.int IntKind.u8 (x 12), AV.int IntKind.u8 (x 13), AV.int IntKind.u8 (x 14), AV.int IntKind.u8 (x 15), AV.int IntKind.i64 n]]) []).toInt != 0) (some (AEnd.ret (AV.int IntKind.i64 (sel (R40 [AV.agg [AV.int IntKind.u8 (x 0), AV.int IntKind.u8 (x 1), AV.int IntKind.u8 (x 2), AV.int IntKind.u8 (x 3), AV.int IntKind.u8 (x 4), AV.int IntKind.u8 (x 5), AV.int IntKind.u8 (x 6), AV.int IntKind.u8 (x 7), AV.int IntKind.u8 (x 8), AV.int IntKind.u8 (x 9), AV.int IntKind.u8 (x 10), AV.int IntKind.u8 (x 11), AV.int IntKind.u8 (x 12), AV.int IntKind.u8 (x 13), AV.int IntKind.u8 (x 14), AV.int IntKind.u8 (x 15), AV.int IntKind.i64 n]]) []).toInt), [])) (aIf (n == 32) (aIf (n == 32) (aIf (x 8 != 0) (some (AEnd.ret (AV.int IntKind.i64 81), [])) (some (AEnd.ret (AV.int IntKind.i64 0), []))) (some (AEnd.ret (AV.int IntKind.i64 80), []))) (aIf (n == 40) (aIf (n == 40) (aIf (x 8 != 0) (some (AEnd.ret (AV.int IntKind.i64 81), [])) (some (AEnd.ret (AV.int IntKind.i64 0), []))) (some (AEnd.ret (AV.int IntKind.i64 80), []))) (aIf (n == 48) (aIf (n == 48) (aIf (x 8 != 0) (some (AEnd.ret (AV.int IntKind.i64 81), [])) (some (AEnd.ret (AV.int IntKind.i64 0), []))) (some (AEnd.ret (AV.int IntKind.i64 80), []))) (aIf (n == 56) (aIf (n == 56) (aIf (x 8 != 0) (some (AEnd.ret (AV.int IntKind.i64 81), [])) (some (AEnd.ret (AV.int IntKind.i64 0), []))) (some (AEnd.ret (AV.int IntKind.i64 80), []))) (aIf (n == 64) (aIf (n == 64) (aIf (x 8 != 0) (some (AEnd.ret (AV.int IntKind.i64 81), [])) (some (AEnd.ret (AV.int IntKind.i64 0), []))) (some (AEnd.ret (AV.int IntKind.i64 80), []))) (aIf (n == 96) (aIf (x 8 != 0) (some (AEnd.ret (AV.int IntKind.i64 81), [])) (some (AEnd.ret (AV.int IntKind.i64 0), []))) (some (AEnd.ret (AV.int IntKind.i64 80), []))))))))) none := by kernel_rfl
theorem R22_is {x : Nat → Int} {n : Int} (hx : b8 x) : R22 [.agg [.int .u8 (x 0), .int .u8 (x 1), .int .u8 (x 2), .int .u8 (x 3), .int .u8 (x 4), .int .u8 (x 5), .int .u8 (x 6), .int .u8 (x 7), .int .u8 (x 8), .int .u8 (x 9), .int .u8 (x 10), .int .u8 (x 11), .int .u8 (x 12), .int .u8 (x 13), .int .u8 (x 14), .int .u8 (x 15), .int .i64 n]] = some (.ret (.int .i64 (embE [.int .u8 (x 0), .int .u8 (x 1), .int .u8 (x 2), .int .u8 (x 3), .int .u8 (x 4), .int .u8 (x 5), .int .u8 (x 6), .int .u8 (x 7), .int .u8 (x 8), .int .u8 (x 9), .int .u8 (x 10), .int .u8 (x 11), .int .u8 (x 12), .int .u8 (x 13), .int .u8 (x 14), .int .u8 (x 15)] n)), []) := by
  show S22 _ [] encK = _
  have ti : ∀ k n, (AV.int k n).toInt = n := fun _ _ => rfl
  have tb : ∀ b, (AV.bool b).toBool = b := fun _ => rfl
  have si : ∀ k n, sel (some (AEnd.ret (AV.int k n), [])) [] = .int k n := fun _ _ => rfl
  have sb : ∀ b, sel (some (AEnd.ret (AV.bool b), [])) [] = .bool b := fun _ => rfl
  rw [N22]
  have hb : byteAt [.int .u8 (x 0), .int .u8 (x 1), .int .u8 (x 2), .int .u8 (x 3), .int .u8 (x 4), .int .u8 (x 5), .int .u8 (x 6), .int .u8 (x 7), .int .u8 (x 8), .int .u8 (x 9), .int .u8 (x 10), .int .u8 (x 11), .int .u8 (x 12), .int .u8 (x 13), .int .u8 (x 14), .int .u8 (x 15)] 8 = x 8 := rfl
  simp only [R40_is hx, shOK_ret, has_int, chkE_in, si, ti, aIf_true, embE, embL, bne, hb]
  rcases chkE_or 128 [.int .u8 (x 0), .int .u8 (x 1), .int .u8 (x 2), .int .u8 (x 3), .int .u8 (x 4), .int .u8 (x 5), .int .u8 (x 6), .int .u8 (x 7), .int .u8 (x 8), .int .u8 (x 9), .int .u8 (x 10), .int .u8 (x 11), .int .u8 (x 12), .int .u8 (x 13), .int .u8 (x 14), .int .u8 (x 15)] n with ⟨h1, h2, h3, h4⟩ | h1
  · rw [h1]
    generalize (n == 32) = c1
    generalize (n == 40) = c2
    generalize (n == 48) = c3
    generalize (n == 56) = c4
    generalize (n == 64) = c5
    generalize (n == 96) = c6
    generalize (x 8 == 0) = c7
    cases c1 <;> cases c2 <;> cases c3 <;> cases c4 <;> cases c5 <;> cases c6 <;> cases c7 <;> rfl
  · rw [h1]
    rfl

/-- ferryman/embed.places -/
noncomputable def T33 : List (FuncId × FSpec) := []
theorem T33_ok : TabOK Tryd.prog T33 := TabOK.nil _
noncomputable def C33 : Ctx := (ctx E T33 [] [(0, [0, 2]), (1, [0, 2, 4]), (2, [2, 4, 5]), (3, [2, 4, 5, 9]), (4, [2, 4, 5, 9, 10]), (5, [2, 4, 5, 6, 9]), (6, [2, 4, 5, 6, 9, 13]), (7, [2, 4, 5, 6, 9]), (8, [2, 4, 5, 9]), (9, [2, 4, 5, 9]), (10, [2, 4, 5, 9]), (11, [2, 3]), (1000004, [2, 4, 5, 9])] [] 24 70)
theorem C33_ok : CtxOK Tryd.prog C33 := ctx_ok E_ok E_flds mixed T33_ok
noncomputable def B33 : FSpec := inlineK C33 Tryd.f33
noncomputable def S33 : FSpec := fun args H k => match args, H with
  | [.int .i64 32], [] => k (.ret (.tup [.agg [.int .i64 4, .int .i64 5, .int .i64 6, .int .i64 7], .int .i64 8])) []
  | [.int .i64 40], [] => k (.ret (.tup [.agg [.int .i64 5, .int .i64 6, .int .i64 7, .int .i64 9], .int .i64 10])) []
  | [.int .i64 48], [] => k (.ret (.tup [.agg [.int .i64 6, .int .i64 7, .int .i64 9, .int .i64 10], .int .i64 11])) []
  | [.int .i64 56], [] => k (.ret (.tup [.agg [.int .i64 7, .int .i64 9, .int .i64 10, .int .i64 11], .int .i64 12])) []
  | [.int .i64 64], [] => k (.ret (.tup [.agg [.int .i64 9, .int .i64 10, .int .i64 11, .int .i64 12], .int .i64 13])) []
  | [.int .i64 96], [] => k (.ret (.tup [.agg [.int .i64 12, .int .i64 13, .int .i64 14, .int .i64 15], .int .i64 16])) []
  | _, _ => none
theorem B33_ok : SpecOK Tryd.prog 33 B33 := inlineK_ok C33_ok Tryd.func33 (fun _ _ => LoopsOK.none _)
theorem S33_ok : SpecOK Tryd.prog 33 S33 := by
  refine B33_ok.turn fun args H => ?_
  unfold S33
  split
  all_goals first
    | exact .inl fun k => rfl
    | exact .inr fun k => by kernel_rfl
theorem En33 : Enters Tryd.prog 33 := ⟨_, Tryd.func33, by decide, rfl⟩

/-- ferryman/embed.Put -/
noncomputable def T12 : List (FuncId × FSpec) := [(22, V22), (33, S33)]
theorem T12_ok : TabOK Tryd.prog T12 := TabOK.cons En22 V22_ok (TabOK.cons En33 S33_ok (TabOK.nil _))
noncomputable def C12 : Ctx := (ctx E T12 [] [(0, [2, 3, 4]), (1, [2, 3, 4, 6]), (2, [2, 3, 4, 6, 14]), (3, [4, 5]), (4, [2, 3, 4, 7]), (5, [2, 3, 4, 23, 24]), (6, [2, 3, 4, 23, 24, 25]), (7, [2, 3, 4, 9, 10, 23, 24]), (8, [2, 3, 4, 23, 24]), (9, [2, 3, 4, 23, 24]), (10, [4, 5]), (1000006, [2, 3, 4, 23, 24])] [] 37 70)
theorem C12_ok : CtxOK Tryd.prog C12 := ctx_ok E_ok E_flds mixed T12_ok
noncomputable def B12 : FSpec := inlineK C12 Tryd.f12
noncomputable def T12e : List (FuncId × FSpec) := [(22, V22)]
noncomputable def C12e : Ctx := ctx E T12e [] [(0, [2, 3, 4]), (1, [2, 3, 4, 6]), (2, [2, 3, 4, 6, 14]), (3, [4, 5]), (4, [2, 3, 4, 7]), (5, [2, 3, 4, 23, 24]), (6, [2, 3, 4, 23, 24, 25]), (7, [2, 3, 4, 9, 10, 23, 24]), (8, [2, 3, 4, 23, 24]), (9, [2, 3, 4, 23, 24]), (10, [4, 5]), (1000006, [2, 3, 4, 23, 24])] [] 37 70
noncomputable def B12e : FSpec := inlineK C12e Tryd.f12
noncomputable def S12 : FSpec := eitherK (fun args => match args with | p :: _ => (sel (R22 [p]) []).toInt != 0 | _ => false) B12e B12
theorem B12_ok : SpecOK Tryd.prog 12 B12 := inlineK_ok C12_ok Tryd.func12 (fun _ _ => LoopsOK.none _)
theorem T12e_ok : TabOK Tryd.prog T12e := TabOK.cons En22 V22_ok (TabOK.nil _)
theorem C12e_ok : CtxOK Tryd.prog C12e := ctx_ok E_ok E_flds mixed T12e_ok
theorem B12e_ok : SpecOK Tryd.prog 12 B12e := inlineK_ok C12e_ok Tryd.func12 (fun _ _ => LoopsOK.none _)
theorem S12_ok : SpecOK Tryd.prog 12 S12 := SpecOK.either _ B12e_ok B12_ok
theorem En12 : Enters Tryd.prog 12 := ⟨_, Tryd.func12, by decide, rfl⟩
noncomputable def R12 (args : List AV) : Res := S12 args [] encK
noncomputable def V12 : FSpec := leafK (.tup [.agg [.int .u8, .int .u8, .int .u8, .int .u8, .int .u8, .int .u8, .int .u8, .int .u8, .int .u8, .int .u8, .int .u8, .int .u8, .int .u8, .int .u8, .int .u8, .int .u8], .int .i64]) R12
theorem V12_ok : SpecOK Tryd.prog 12 V12 := leafK_ok S12_ok (fun _ => rfl)
theorem N12e (x z : Nat → Int) (n : Int) : B12e [.agg [.int .u8 (x 0), .int .u8 (x 1), .int .u8 (x 2), .int .u8 (x 3), .int .u8 (x 4), .int .u8 (x 5), .int .u8 (x 6), .int .u8 (x 7), .int .u8 (x 8), .int .u8 (x 9), .int .u8 (x 10), .int .u8 (x 11), .int .u8 (x 12), .int .u8 (x 13), .int .u8 (x 14), .int .u8 (x 15), .int .i64 n], .agg [.int .u8 (z 0), .int .u8 (z 1), .int .u8 (z 2), .int .u8 (z 3)]] [] encK =
  aIf (shOK (Sh.int IntKind.i64) (R22 [AV.agg [AV.int IntKind.u8 (x 0), AV.int IntKind.u8 (x 1), AV.int IntKind.u8 (x 2), AV.int IntKind.u8 (x 3), AV.int IntKind.u8 (x 4), AV.int IntKind.u8 (x 5), AV.int IntKind.u8 (x 6), AV.int IntKind.u8 (x 7), AV.int IntKind.u8 (x 8), AV.int IntKind.u8 (x 9), AV.int IntKind.u8 (x 10), AV.int IntKind.u8 (x 11), AV.int IntKind.u8 (x 12), AV.int IntKind.u8 (x 13), AV.int IntKind.u8 (x 14), AV.int IntKind.u8 (x 15), AV.int IntKind.i64 n]])) (aIf ((sel (R22 [AV.agg [AV.int IntKind.u8 (x 0), AV.int IntKind.u8 (x 1), AV.int IntKind.u8 (x 2), AV.int IntKind.u8 (x 3), AV.int IntKind.u8 (x 4), AV.int IntKind.u8 (x 5), AV.int IntKind.u8 (x 6), AV.int IntKind.u8 (x 7), AV.int IntKind.u8 (x 8), AV.int IntKind.u8 (x 9), AV.int IntKind.u8 (x 10), AV.int IntKind.u8 (x 11), AV.int IntKind.u8 (x 12), AV.int IntKind.u8 (x 13), AV.int IntKind.u8 (x 14), AV.int IntKind.u8 (x 15), AV.int IntKind.i64 n]]) []).toInt != 0) (some (AEnd.ret (AV.tup [AV.agg [AV.int IntKind.u8 0, AV.int IntKind.u8 0, AV.int IntKind.u8 0, AV.int IntKind.u8 0, AV.int IntKind.u8 0, AV.int IntKind.u8 0, AV.int IntKind.u8 0, AV.int IntKind.u8 0, AV.int IntKind.u8 0, AV.int IntKind.u8 0, AV.int IntKind.u8 0, AV.int IntKind.u8 0, AV.int IntKind.u8 0, AV.int IntKind.u8 0, AV.int IntKind.u8 0, AV.int IntKind.u8 0], AV.int IntKind.i64 (sel (R22 [AV.agg [AV.int IntKind.u8 (x 0), AV.int IntKind.u8 (x 1), AV.int IntKind.u8 (x 2), AV.int IntKind.u8 (x 3), AV.int IntKind.u8 (x 4), AV.int IntKind.u8 (x 5), AV.int IntKind.u8 (x 6), AV.int IntKind.u8 (x 7), AV.int IntKind.u8 (x 8), AV.int IntKind.u8 (x 9), AV.int IntKind.u8 (x 10), AV.int IntKind.u8 (x 11), AV.int IntKind.u8 (x 12), AV.int IntKind.u8 (x 13), AV.int IntKind.u8 (x 14), AV.int IntKind.u8 (x 15), AV.int IntKind.i64 n]]) []).toInt]), [])) none) none := by kernel_rfl
theorem N12_32 (x z : Nat → Int) : B12 [.agg [.int .u8 (x 0), .int .u8 (x 1), .int .u8 (x 2), .int .u8 (x 3), .int .u8 (x 4), .int .u8 (x 5), .int .u8 (x 6), .int .u8 (x 7), .int .u8 (x 8), .int .u8 (x 9), .int .u8 (x 10), .int .u8 (x 11), .int .u8 (x 12), .int .u8 (x 13), .int .u8 (x 14), .int .u8 (x 15), .int .i64 32], .agg [.int .u8 (z 0), .int .u8 (z 1), .int .u8 (z 2), .int .u8 (z 3)]] [] encK =
  aIf (shOK (Sh.int IntKind.i64) (R22 [AV.agg [AV.int IntKind.u8 (x 0), AV.int IntKind.u8 (x 1), AV.int IntKind.u8 (x 2), AV.int IntKind.u8 (x 3), AV.int IntKind.u8 (x 4), AV.int IntKind.u8 (x 5), AV.int IntKind.u8 (x 6), AV.int IntKind.u8 (x 7), AV.int IntKind.u8 (x 8), AV.int IntKind.u8 (x 9), AV.int IntKind.u8 (x 10), AV.int IntKind.u8 (x 11), AV.int IntKind.u8 (x 12), AV.int IntKind.u8 (x 13), AV.int IntKind.u8 (x 14), AV.int IntKind.u8 (x 15), AV.int IntKind.i64 32]])) (aIf ((sel (R22 [AV.agg [AV.int IntKind.u8 (x 0), AV.int IntKind.u8 (x 1), AV.int IntKind.u8 (x 2), AV.int IntKind.u8 (x 3), AV.int IntKind.u8 (x 4), AV.int IntKind.u8 (x 5), AV.int IntKind.u8 (x 6), AV.int IntKind.u8 (x 7), AV.int IntKind.u8 (x 8), AV.int IntKind.u8 (x 9), AV.int IntKind.u8 (x 10), AV.int IntKind.u8 (x 11), AV.int IntKind.u8 (x 12), AV.int IntKind.u8 (x 13), AV.int IntKind.u8 (x 14), AV.int IntKind.u8 (x 15), AV.int IntKind.i64 32]]) []).toInt != 0) (some (AEnd.ret (AV.tup [AV.agg [AV.int IntKind.u8 0, AV.int IntKind.u8 0, AV.int IntKind.u8 0, AV.int IntKind.u8 0, AV.int IntKind.u8 0, AV.int IntKind.u8 0, AV.int IntKind.u8 0, AV.int IntKind.u8 0, AV.int IntKind.u8 0, AV.int IntKind.u8 0, AV.int IntKind.u8 0, AV.int IntKind.u8 0, AV.int IntKind.u8 0, AV.int IntKind.u8 0, AV.int IntKind.u8 0, AV.int IntKind.u8 0], AV.int IntKind.i64 (sel (R22 [AV.agg [AV.int IntKind.u8 (x 0), AV.int IntKind.u8 (x 1), AV.int IntKind.u8 (x 2), AV.int IntKind.u8 (x 3), AV.int IntKind.u8 (x 4), AV.int IntKind.u8 (x 5), AV.int IntKind.u8 (x 6), AV.int IntKind.u8 (x 7), AV.int IntKind.u8 (x 8), AV.int IntKind.u8 (x 9), AV.int IntKind.u8 (x 10), AV.int IntKind.u8 (x 11), AV.int IntKind.u8 (x 12), AV.int IntKind.u8 (x 13), AV.int IntKind.u8 (x 14), AV.int IntKind.u8 (x 15), AV.int IntKind.i64 32]]) []).toInt]), [])) (some (AEnd.ret (AV.tup [AV.agg [AV.int IntKind.u8 (x 0), AV.int IntKind.u8 (x 1), AV.int IntKind.u8 (x 2), AV.int IntKind.u8 (x 3), AV.int IntKind.u8 (z 0), AV.int IntKind.u8 (z 1), AV.int IntKind.u8 (z 2), AV.int IntKind.u8 (z 3), AV.int IntKind.u8 (x 8), AV.int IntKind.u8 (x 9), AV.int IntKind.u8 (x 10), AV.int IntKind.u8 (x 11), AV.int IntKind.u8 (x 12), AV.int IntKind.u8 (x 13), AV.int IntKind.u8 (x 14), AV.int IntKind.u8 (x 15)], AV.int IntKind.i64 0]), []))) none := by kernel_rfl
theorem N12_40 (x z : Nat → Int) : B12 [.agg [.int .u8 (x 0), .int .u8 (x 1), .int .u8 (x 2), .int .u8 (x 3), .int .u8 (x 4), .int .u8 (x 5), .int .u8 (x 6), .int .u8 (x 7), .int .u8 (x 8), .int .u8 (x 9), .int .u8 (x 10), .int .u8 (x 11), .int .u8 (x 12), .int .u8 (x 13), .int .u8 (x 14), .int .u8 (x 15), .int .i64 40], .agg [.int .u8 (z 0), .int .u8 (z 1), .int .u8 (z 2), .int .u8 (z 3)]] [] encK =
  aIf (shOK (Sh.int IntKind.i64) (R22 [AV.agg [AV.int IntKind.u8 (x 0), AV.int IntKind.u8 (x 1), AV.int IntKind.u8 (x 2), AV.int IntKind.u8 (x 3), AV.int IntKind.u8 (x 4), AV.int IntKind.u8 (x 5), AV.int IntKind.u8 (x 6), AV.int IntKind.u8 (x 7), AV.int IntKind.u8 (x 8), AV.int IntKind.u8 (x 9), AV.int IntKind.u8 (x 10), AV.int IntKind.u8 (x 11), AV.int IntKind.u8 (x 12), AV.int IntKind.u8 (x 13), AV.int IntKind.u8 (x 14), AV.int IntKind.u8 (x 15), AV.int IntKind.i64 40]])) (aIf ((sel (R22 [AV.agg [AV.int IntKind.u8 (x 0), AV.int IntKind.u8 (x 1), AV.int IntKind.u8 (x 2), AV.int IntKind.u8 (x 3), AV.int IntKind.u8 (x 4), AV.int IntKind.u8 (x 5), AV.int IntKind.u8 (x 6), AV.int IntKind.u8 (x 7), AV.int IntKind.u8 (x 8), AV.int IntKind.u8 (x 9), AV.int IntKind.u8 (x 10), AV.int IntKind.u8 (x 11), AV.int IntKind.u8 (x 12), AV.int IntKind.u8 (x 13), AV.int IntKind.u8 (x 14), AV.int IntKind.u8 (x 15), AV.int IntKind.i64 40]]) []).toInt != 0) (some (AEnd.ret (AV.tup [AV.agg [AV.int IntKind.u8 0, AV.int IntKind.u8 0, AV.int IntKind.u8 0, AV.int IntKind.u8 0, AV.int IntKind.u8 0, AV.int IntKind.u8 0, AV.int IntKind.u8 0, AV.int IntKind.u8 0, AV.int IntKind.u8 0, AV.int IntKind.u8 0, AV.int IntKind.u8 0, AV.int IntKind.u8 0, AV.int IntKind.u8 0, AV.int IntKind.u8 0, AV.int IntKind.u8 0, AV.int IntKind.u8 0], AV.int IntKind.i64 (sel (R22 [AV.agg [AV.int IntKind.u8 (x 0), AV.int IntKind.u8 (x 1), AV.int IntKind.u8 (x 2), AV.int IntKind.u8 (x 3), AV.int IntKind.u8 (x 4), AV.int IntKind.u8 (x 5), AV.int IntKind.u8 (x 6), AV.int IntKind.u8 (x 7), AV.int IntKind.u8 (x 8), AV.int IntKind.u8 (x 9), AV.int IntKind.u8 (x 10), AV.int IntKind.u8 (x 11), AV.int IntKind.u8 (x 12), AV.int IntKind.u8 (x 13), AV.int IntKind.u8 (x 14), AV.int IntKind.u8 (x 15), AV.int IntKind.i64 40]]) []).toInt]), [])) (some (AEnd.ret (AV.tup [AV.agg [AV.int IntKind.u8 (x 0), AV.int IntKind.u8 (x 1), AV.int IntKind.u8 (x 2), AV.int IntKind.u8 (x 3), AV.int IntKind.u8 (x 4), AV.int IntKind.u8 (z 0), AV.int IntKind.u8 (z 1), AV.int IntKind.u8 (z 2), AV.int IntKind.u8 (x 8), AV.int IntKind.u8 (z 3), AV.int IntKind.u8 (x 10), AV.int IntKind.u8 (x 11), AV.int IntKind.u8 (x 12), AV.int IntKind.u8 (x 13), AV.int IntKind.u8 (x 14), AV.int IntKind.u8 (x 15)], AV.int IntKind.i64 0]), []))) none := by kernel_rfl
theorem N12_48 (x z : Nat → Int) : B12 [.agg [.int .u8 (x 0), .int .u8 (x 1), .int .u8 (x 2), .int .u8 (x 3), .int .u8 (x 4), .int .u8 (x 5), .int .u8 (x 6), .int .u8 (x 7), .int .u8 (x 8), .int .u8 (x 9), .int .u8 (x 10), .int .u8 (x 11), .int .u8 (x 12), .int .u8 (x 13), .int .u8 (x 14), .int .u8 (x 15), .int .i64 48], .agg [.int .u8 (z 0), .int .u8 (z 1), .int .u8 (z 2), .int .u8 (z 3)]] [] encK =
  aIf (shOK (Sh.int IntKind.i64) (R22 [AV.agg [AV.int IntKind.u8 (x 0), AV.int IntKind.u8 (x 1), AV.int IntKind.u8 (x 2), AV.int IntKind.u8 (x 3), AV.int IntKind.u8 (x 4), AV.int IntKind.u8 (x 5), AV.int IntKind.u8 (x 6), AV.int IntKind.u8 (x 7), AV.int IntKind.u8 (x 8), AV.int IntKind.u8 (x 9), AV.int IntKind.u8 (x 10), AV.int IntKind.u8 (x 11), AV.int IntKind.u8 (x 12), AV.int IntKind.u8 (x 13), AV.int IntKind.u8 (x 14), AV.int IntKind.u8 (x 15), AV.int IntKind.i64 48]])) (aIf ((sel (R22 [AV.agg [AV.int IntKind.u8 (x 0), AV.int IntKind.u8 (x 1), AV.int IntKind.u8 (x 2), AV.int IntKind.u8 (x 3), AV.int IntKind.u8 (x 4), AV.int IntKind.u8 (x 5), AV.int IntKind.u8 (x 6), AV.int IntKind.u8 (x 7), AV.int IntKind.u8 (x 8), AV.int IntKind.u8 (x 9), AV.int IntKind.u8 (x 10), AV.int IntKind.u8 (x 11), AV.int IntKind.u8 (x 12), AV.int IntKind.u8 (x 13), AV.int IntKind.u8 (x 14), AV.int IntKind.u8 (x 15), AV.int IntKind.i64 48]]) []).toInt != 0) (some (AEnd.ret (AV.tup [AV.agg [AV.int IntKind.u8 0, AV.int IntKind.u8 0, AV.int IntKind.u8 0, AV.int IntKind.u8 0, AV.int IntKind.u8 0, AV.int IntKind.u8 0, AV.int IntKind.u8 0, AV.int IntKind.u8 0, AV.int IntKind.u8 0, AV.int IntKind.u8 0, AV.int IntKind.u8 0, AV.int IntKind.u8 0, AV.int IntKind.u8 0, AV.int IntKind.u8 0, AV.int IntKind.u8 0, AV.int IntKind.u8 0], AV.int IntKind.i64 (sel (R22 [AV.agg [AV.int IntKind.u8 (x 0), AV.int IntKind.u8 (x 1), AV.int IntKind.u8 (x 2), AV.int IntKind.u8 (x 3), AV.int IntKind.u8 (x 4), AV.int IntKind.u8 (x 5), AV.int IntKind.u8 (x 6), AV.int IntKind.u8 (x 7), AV.int IntKind.u8 (x 8), AV.int IntKind.u8 (x 9), AV.int IntKind.u8 (x 10), AV.int IntKind.u8 (x 11), AV.int IntKind.u8 (x 12), AV.int IntKind.u8 (x 13), AV.int IntKind.u8 (x 14), AV.int IntKind.u8 (x 15), AV.int IntKind.i64 48]]) []).toInt]), [])) (some (AEnd.ret (AV.tup [AV.agg [AV.int IntKind.u8 (x 0), AV.int IntKind.u8 (x 1), AV.int IntKind.u8 (x 2), AV.int IntKind.u8 (x 3), AV.int IntKind.u8 (x 4), AV.int IntKind.u8 (x 5), AV.int IntKind.u8 (z 0), AV.int IntKind.u8 (z 1), AV.int IntKind.u8 (x 8), AV.int IntKind.u8 (z 2), AV.int IntKind.u8 (z 3), AV.int IntKind.u8 (x 11), AV.int IntKind.u8 (x 12), AV.int IntKind.u8 (x 13), AV.int IntKind.u8 (x 14), AV.int IntKind.u8 (x 15)], AV.int IntKind.i64 0]), []))) none := by kernel_rfl
theorem N12_56 (x z : Nat → Int) : B12 [.agg [.int .u8 (x 0), .int .u8 (x 1), .int .u8 (x 2), .int .u8 (x 3), .int .u8 (x 4), .int .u8 (x 5), .int .u8 (x 6), .int .u8 (x 7), .int .u8 (x 8), .int .u8 (x 9), .int .u8 (x 10), .int .u8 (x 11), .int .u8 (x 12), .int .u8 (x 13), .int .u8 (x 14), .int .u8 (x 15), .int .i64 56], .agg [.int .u8 (z 0), .int .u8 (z 1), .int .u8 (z 2), .int .u8 (z 3)]] [] encK =
  aIf (shOK (Sh.int IntKind.i64) (R22 [AV.agg [AV.int IntKind.u8 (x 0), AV.int IntKind.u8 (x 1), AV.int IntKind.u8 (x 2), AV.int IntKind.u8 (x 3), AV.int IntKind.u8 (x 4), AV.int IntKind.u8 (x 5), AV.int IntKind.u8 (x 6), AV.int IntKind.u8 (x 7), AV.int IntKind.u8 (x 8), AV.int IntKind.u8 (x 9), AV.int IntKind.u8 (x 10), AV.int IntKind.u8 (x 11), AV.int IntKind.u8 (x 12), AV.int IntKind.u8 (x 13), AV.int IntKind.u8 (x 14), AV.int IntKind.u8 (x 15), AV.int IntKind.i64 56]])) (aIf ((sel (R22 [AV.agg [AV.int IntKind.u8 (x 0), AV.int IntKind.u8 (x 1), AV.int IntKind.u8 (x 2), AV.int IntKind.u8 (x 3), AV.int IntKind.u8 (x 4), AV.int IntKind.u8 (x 5), AV.int IntKind.u8 (x 6), AV.int IntKind.u8 (x 7), AV.int IntKind.u8 (x 8), AV.int IntKind.u8 (x 9), AV.int IntKind.u8 (x 10), AV.int IntKind.u8 (x 11), AV.int IntKind.u8 (x 12), AV.int IntKind.u8 (x 13), AV.int IntKind.u8 (x 14), AV.int IntKind.u8 (x 15), AV.int IntKind.i64 56]]) []).toInt != 0) (some (AEnd.ret (AV.tup [AV.agg [AV.int IntKind.u8 0, AV.int IntKind.u8 0, AV.int IntKind.u8 0, AV.int IntKind.u8 0, AV.int IntKind.u8 0, AV.int IntKind.u8 0, AV.int IntKind.u8 0, AV.int IntKind.u8 0, AV.int IntKind.u8 0, AV.int IntKind.u8 0, AV.int IntKind.u8 0, AV.int IntKind.u8 0, AV.int IntKind.u8 0, AV.int IntKind.u8 0, AV.int IntKind.u8 0, AV.int IntKind.u8 0], AV.int IntKind.i64 (sel (R22 [AV.agg [AV.int IntKind.u8 (x 0), AV.int IntKind.u8 (x 1), AV.int IntKind.u8 (x 2), AV.int IntKind.u8 (x 3), AV.int IntKind.u8 (x 4), AV.int IntKind.u8 (x 5), AV.int IntKind.u8 (x 6), AV.int IntKind.u8 (x 7), AV.int IntKind.u8 (x 8), AV.int IntKind.u8 (x 9), AV.int IntKind.u8 (x 10), AV.int IntKind.u8 (x 11), AV.int IntKind.u8 (x 12), AV.int IntKind.u8 (x 13), AV.int IntKind.u8 (x 14), AV.int IntKind.u8 (x 15), AV.int IntKind.i64 56]]) []).toInt]), [])) (some (AEnd.ret (AV.tup [AV.agg [AV.int IntKind.u8 (x 0), AV.int IntKind.u8 (x 1), AV.int IntKind.u8 (x 2), AV.int IntKind.u8 (x 3), AV.int IntKind.u8 (x 4), AV.int IntKind.u8 (x 5), AV.int IntKind.u8 (x 6), AV.int IntKind.u8 (z 0), AV.int IntKind.u8 (x 8), AV.int IntKind.u8 (z 1), AV.int IntKind.u8 (z 2), AV.int IntKind.u8 (z 3), AV.int IntKind.u8 (x 12), AV.int IntKind.u8 (x 13), AV.int IntKind.u8 (x 14), AV.int IntKind.u8 (x 15)], AV.int IntKind.i64 0]), []))) none := by kernel_rfl
theorem N12_64 (x z : Nat → Int) : B12 [.agg [.int .u8 (x 0), .int .u8 (x 1), .int .u8 (x 2), .int .u8 (x 3), .int .u8 (x 4), .int .u8 (x 5), .int .u8 (x 6), .int .u8 (x 7), .int .u8 (x 8), .int .u8 (x 9), .int .u8 (x 10), .int .u8 (x 11), .int .u8 (x 12), .int .u8 (x 13), .int .u8 (x 14), .int .u8 (x 15), .int .i64 64], .agg [.int .u8 (z 0), .int .u8 (z 1), .int .u8 (z 2), .int .u8 (z 3)]] [] encK =
  aIf (shOK (Sh.int IntKind.i64) (R22 [AV.agg [AV.int IntKind.u8 (x 0), AV.int IntKind.u8 (x 1), AV.int IntKind.u8 (x 2), AV.int IntKind.u8 (x 3), AV.int IntKind.u8 (x 4), AV.int IntKind.u8 (x 5), AV.int IntKind.u8 (x 6), AV.int IntKind.u8 (x 7), AV.int IntKind.u8 (x 8), AV.int IntKind.u8 (x 9), AV.int IntKind.u8 (x 10), AV.int IntKind.u8 (x 11), AV.int IntKind.u8 (x 12), AV.int IntKind.u8 (x 13), AV.int IntKind.u8 (x 14), AV.int IntKind.u8 (x 15), AV.int IntKind.i64 64]])) (aIf ((sel (R22 [AV.agg [AV.int IntKind.u8 (x 0), AV.int IntKind.u8 (x 1), AV.int IntKind.u8 (x 2), AV.int IntKind.u8 (x 3), AV.int IntKind.u8 (x 4), AV.int IntKind.u8 (x 5), AV.int IntKind.u8 (x 6), AV.int IntKind.u8 (x 7), AV.int IntKind.u8 (x 8), AV.int IntKind.u8 (x 9), AV.int IntKind.u8 (x 10), AV.int IntKind.u8 (x 11), AV.int IntKind.u8 (x 12), AV.int IntKind.u8 (x 13), AV.int IntKind.u8 (x 14), AV.int IntKind.u8 (x 15), AV.int IntKind.i64 64]]) []).toInt != 0) (some (AEnd.ret (AV.tup [AV.agg [AV.int IntKind.u8 0, AV.int IntKind.u8 0, AV.int IntKind.u8 0, AV.int IntKind.u8 0, AV.int IntKind.u8 0, AV.int IntKind.u8 0, AV.int IntKind.u8 0, AV.int IntKind.u8 0, AV.int IntKind.u8 0, AV.int IntKind.u8 0, AV.int IntKind.u8 0, AV.int IntKind.u8 0, AV.int IntKind.u8 0, AV.int IntKind.u8 0, AV.int IntKind.u8 0, AV.int IntKind.u8 0], AV.int IntKind.i64 (sel (R22 [AV.agg [AV.int IntKind.u8 (x 0), AV.int IntKind.u8 (x 1), AV.int IntKind.u8 (x 2), AV.int IntKind.u8 (x 3), AV.int IntKind.u8 (x 4), AV.int IntKind.u8 (x 5), AV.int IntKind.u8 (x 6), AV.int IntKind.u8 (x 7), AV.int IntKind.u8 (x 8), AV.int IntKind.u8 (x 9), AV.int IntKind.u8 (x 10), AV.int IntKind.u8 (x 11), AV.int IntKind.u8 (x 12), AV.int IntKind.u8 (x 13), AV.int IntKind.u8 (x 14), AV.int IntKind.u8 (x 15), AV.int IntKind.i64 64]]) []).toInt]), [])) (some (AEnd.ret (AV.tup [AV.agg [AV.int IntKind.u8 (x 0), AV.int IntKind.u8 (x 1), AV.int IntKind.u8 (x 2), AV.int IntKind.u8 (x 3), AV.int IntKind.u8 (x 4), AV.int IntKind.u8 (x 5), AV.int IntKind.u8 (x 6), AV.int IntKind.u8 (x 7), AV.int IntKind.u8 (x 8), AV.int IntKind.u8 (z 0), AV.int IntKind.u8 (z 1), AV.int IntKind.u8 (z 2), AV.int IntKind.u8 (z 3), AV.int IntKind.u8 (x 13), AV.int IntKind.u8 (x 14), AV.int IntKind.u8 (x 15)], AV.int IntKind.i64 0]), []))) none := by kernel_rfl
theorem N12_96 (x z : Nat → Int) : B12 [.agg [.int .u8 (x 0), .int .u8 (x 1), .int .u8 (x 2), .int .u8 (x 3), .int .u8 (x 4), .int .u8 (x 5), .int .u8 (x 6), .int .u8 (x 7), .int .u8 (x 8), .int .u8 (x 9), .int .u8 (x 10), .int .u8 (x 11), .int .u8 (x 12), .int .u8 (x 13), .int .u8 (x 14), .int .u8 (x 15), .int .i64 96], .agg [.int .u8 (z 0), .int .u8 (z 1), .int .u8 (z 2), .int .u8 (z 3)]] [] encK =
  aIf (shOK (Sh.int IntKind.i64) (R22 [AV.agg [AV.int IntKind.u8 (x 0), AV.int IntKind.u8 (x 1), AV.int IntKind.u8 (x 2), AV.int IntKind.u8 (x 3), AV.int IntKind.u8 (x 4), AV.int IntKind.u8 (x 5), AV.int IntKind.u8 (x 6), AV.int IntKind.u8 (x 7), AV.int IntKind.u8 (x 8), AV.int IntKind.u8 (x 9), AV.int IntKind.u8 (x 10), AV.int IntKind.u8 (x 11), AV.int IntKind.u8 (x 12), AV.int IntKind.u8 (x 13), AV.int IntKind.u8 (x 14), AV.int IntKind.u8 (x 15), AV.int IntKind.i64 96]])) (aIf ((sel (R22 [AV.agg [AV.int IntKind.u8 (x 0), AV.int IntKind.u8 (x 1), AV.int IntKind.u8 (x 2), AV.int IntKind.u8 (x 3), AV.int IntKind.u8 (x 4), AV.int IntKind.u8 (x 5), AV.int IntKind.u8 (x 6), AV.int IntKind.u8 (x 7), AV.int IntKind.u8 (x 8), AV.int IntKind.u8 (x 9), AV.int IntKind.u8 (x 10), AV.int IntKind.u8 (x 11), AV.int IntKind.u8 (x 12), AV.int IntKind.u8 (x 13), AV.int IntKind.u8 (x 14), AV.int IntKind.u8 (x 15), AV.int IntKind.i64 96]]) []).toInt != 0) (some (AEnd.ret (AV.tup [AV.agg [AV.int IntKind.u8 0, AV.int IntKind.u8 0, AV.int IntKind.u8 0, AV.int IntKind.u8 0, AV.int IntKind.u8 0, AV.int IntKind.u8 0, AV.int IntKind.u8 0, AV.int IntKind.u8 0, AV.int IntKind.u8 0, AV.int IntKind.u8 0, AV.int IntKind.u8 0, AV.int IntKind.u8 0, AV.int IntKind.u8 0, AV.int IntKind.u8 0, AV.int IntKind.u8 0, AV.int IntKind.u8 0], AV.int IntKind.i64 (sel (R22 [AV.agg [AV.int IntKind.u8 (x 0), AV.int IntKind.u8 (x 1), AV.int IntKind.u8 (x 2), AV.int IntKind.u8 (x 3), AV.int IntKind.u8 (x 4), AV.int IntKind.u8 (x 5), AV.int IntKind.u8 (x 6), AV.int IntKind.u8 (x 7), AV.int IntKind.u8 (x 8), AV.int IntKind.u8 (x 9), AV.int IntKind.u8 (x 10), AV.int IntKind.u8 (x 11), AV.int IntKind.u8 (x 12), AV.int IntKind.u8 (x 13), AV.int IntKind.u8 (x 14), AV.int IntKind.u8 (x 15), AV.int IntKind.i64 96]]) []).toInt]), [])) (some (AEnd.ret (AV.tup [AV.agg [AV.int IntKind.u8 (x 0), AV.int IntKind.u8 (x 1), AV.int IntKind.u8 (x 2), AV.int IntKind.u8 (x 3), AV.int IntKind.u8 (x 4), AV.int IntKind.u8 (x 5), AV.int IntKind.u8 (x 6), AV.int IntKind.u8 (x 7), AV.int IntKind.u8 (x 8), AV.int IntKind.u8 (x 9), AV.int IntKind.u8 (x 10), AV.int IntKind.u8 (x 11), AV.int IntKind.u8 (z 0), AV.int IntKind.u8 (z 1), AV.int IntKind.u8 (z 2), AV.int IntKind.u8 (z 3)], AV.int IntKind.i64 0]), []))) none := by kernel_rfl
theorem R12_is {x z : Nat → Int} {n : Int} (hx : b8 x) (hz : b8 z) : R12 [.agg [.int .u8 (x 0), .int .u8 (x 1), .int .u8 (x 2), .int .u8 (x 3), .int .u8 (x 4), .int .u8 (x 5), .int .u8 (x 6), .int .u8 (x 7), .int .u8 (x 8), .int .u8 (x 9), .int .u8 (x 10), .int .u8 (x 11), .int .u8 (x 12), .int .u8 (x 13), .int .u8 (x 14), .int .u8 (x 15), .int .i64 n], .agg [.int .u8 (z 0), .int .u8 (z 1), .int .u8 (z 2), .int .u8 (z 3)]] = some (.ret (.tup [.agg (putW n [.int .u8 (x 0), .int .u8 (x 1), .int .u8 (x 2), .int .u8 (x 3), .int .u8 (x 4), .int .u8 (x 5), .int .u8 (x 6), .int .u8 (x 7), .int .u8 (x 8), .int .u8 (x 9), .int .u8 (x 10), .int .u8 (x 11), .int .u8 (x 12), .int .u8 (x 13), .int .u8 (x 14), .int .u8 (x 15)] [.int .u8 (z 0), .int .u8 (z 1), .int .u8 (z 2), .int .u8 (z 3)]), .int .i64 (embE [.int .u8 (x 0), .int .u8 (x 1), .int .u8 (x 2), .int .u8 (x 3), .int .u8 (x 4), .int .u8 (x 5), .int .u8 (x 6), .int .u8 (x 7), .int .u8 (x 8), .int .u8 (x 9), .int .u8 (x 10), .int .u8 (x 11), .int .u8 (x 12), .int .u8 (x 13), .int .u8 (x 14), .int .u8 (x 15)] n)]), []) := by
  rcases embE_or [.int .u8 (x 0), .int .u8 (x 1), .int .u8 (x 2), .int .u8 (x 3), .int .u8 (x 4), .int .u8 (x 5), .int .u8 (x 6), .int .u8 (x 7), .int .u8 (x 8), .int .u8 (x 9), .int .u8 (x 10), .int .u8 (x 11), .int .u8 (x 12), .int .u8 (x 13), .int .u8 (x 14), .int .u8 (x 15)] n with ⟨h1, h2, h3, _⟩ | h1
  · rcases h2 with rfl | rfl | rfl | rfl | rfl | rfl
    · have hw : putW 32 [.int .u8 (x 0), .int .u8 (x 1), .int .u8 (x 2), .int .u8 (x 3), .int .u8 (x 4), .int .u8 (x 5), .int .u8 (x 6), .int .u8 (x 7), .int .u8 (x 8), .int .u8 (x 9), .int .u8 (x 10), .int .u8 (x 11), .int .u8 (x 12), .int .u8 (x 13), .int .u8 (x 14), .int .u8 (x 15)] [.int .u8 (z 0), .int .u8 (z 1), .int .u8 (z 2), .int .u8 (z 3)] = layX 32 [.int .u8 (z 0), .int .u8 (z 1), .int .u8 (z 2), .int .u8 (z 3)] [.int .u8 (x 0), .int .u8 (x 1), .int .u8 (x 2), .int .u8 (x 3), .int .u8 (x 4), .int .u8 (x 5), .int .u8 (x 6), .int .u8 (x 7), .int .u8 (x 8), .int .u8 (x 9), .int .u8 (x 10), .int .u8 (x 11), .int .u8 (x 12), .int .u8 (x 13), .int .u8 (x 14), .int .u8 (x 15)] := by unfold putW; rw [h1]; rfl
      rw [hw, h1, lay_32 hx hz h3]
      show aIf ((sel (R22 [.agg [.int .u8 (x 0), .int .u8 (x 1), .int .u8 (x 2), .int .u8 (x 3), .int .u8 (x 4), .int .u8 (x 5), .int .u8 (x 6), .int .u8 (x 7), .int .u8 (x 8), .int .u8 (x 9), .int .u8 (x 10), .int .u8 (x 11), .int .u8 (x 12), .int .u8 (x 13), .int .u8 (x 14), .int .u8 (x 15), .int .i64 32]]) []).toInt != 0) (B12e _ [] encK) (B12 [.agg [.int .u8 (x 0), .int .u8 (x 1), .int .u8 (x 2), .int .u8 (x 3), .int .u8 (x 4), .int .u8 (x 5), .int .u8 (x 6), .int .u8 (x 7), .int .u8 (x 8), .int .u8 (x 9), .int .u8 (x 10), .int .u8 (x 11), .int .u8 (x 12), .int .u8 (x 13), .int .u8 (x 14), .int .u8 (x 15), .int .i64 32], .agg [.int .u8 (z 0), .int .u8 (z 1), .int .u8 (z 2), .int .u8 (z 3)]] [] encK) = _
      rw [N12_32, R22_is hx, h1]
      rfl
    · have hw : putW 40 [.int .u8 (x 0), .int .u8 (x 1), .int .u8 (x 2), .int .u8 (x 3), .int .u8 (x 4), .int .u8 (x 5), .int .u8 (x 6), .int .u8 (x 7), .int .u8 (x 8), .int .u8 (x 9), .int .u8 (x 10), .int .u8 (x 11), .int .u8 (x 12), .int .u8 (x 13), .int .u8 (x 14), .int .u8 (x 15)] [.int .u8 (z 0), .int .u8 (z 1), .int .u8 (z 2), .int .u8 (z 3)] = layX 40 [.int .u8 (z 0), .int .u8 (z 1), .int .u8 (z 2), .int .u8 (z 3)] [.int .u8 (x 0), .int .u8 (x 1), .int .u8 (x 2), .int .u8 (x 3), .int .u8 (x 4), .int .u8 (x 5), .int .u8 (x 6), .int .u8 (x 7), .int .u8 (x 8), .int .u8 (x 9), .int .u8 (x 10), .int .u8 (x 11), .int .u8 (x 12), .int .u8 (x 13), .int .u8 (x 14), .int .u8 (x 15)] := by unfold putW; rw [h1]; rfl
      rw [hw, h1, lay_40 hx hz h3]
      show aIf ((sel (R22 [.agg [.int .u8 (x 0), .int .u8 (x 1), .int .u8 (x 2), .int .u8 (x 3), .int .u8 (x 4), .int .u8 (x 5), .int .u8 (x 6), .int .u8 (x 7), .int .u8 (x 8), .int .u8 (x 9), .int .u8 (x 10), .int .u8 (x 11), .int .u8 (x 12), .int .u8 (x 13), .int .u8 (x 14), .int .u8 (x 15), .int .i64 40]]) []).toInt != 0) (B12e _ [] encK) (B12 [.agg [.int .u8 (x 0), .int .u8 (x 1), .int .u8 (x 2), .int .u8 (x 3), .int .u8 (x 4), .int .u8 (x 5), .int .u8 (x 6), .int .u8 (x 7), .int .u8 (x 8), .int .u8 (x 9), .int .u8 (x 10), .int .u8 (x 11), .int .u8 (x 12), .int .u8 (x 13), .int .u8 (x 14), .int .u8 (x 15), .int .i64 40], .agg [.int .u8 (z 0), .int .u8 (z 1), .int .u8 (z 2), .int .u8 (z 3)]] [] encK) = _
      rw [N12_40, R22_is hx, h1]
      rfl
    · have hw : putW 48 [.int .u8 (x 0), .int .u8 (x 1), .int .u8 (x 2), .int .u8 (x 3), .int .u8 (x 4), .int .u8 (x 5), .int .u8 (x 6), .int .u8 (x 7), .int .u8 (x 8), .int .u8 (x 9), .int .u8 (x 10), .int .u8 (x 11), .int .u8 (x 12), .int .u8 (x 13), .int .u8 (x 14), .int .u8 (x 15)] [.int .u8 (z 0), .int .u8 (z 1), .int .u8 (z 2), .int .u8 (z 3)] = layX 48 [.int .u8 (z 0), .int .u8 (z 1), .int .u8 (z 2), .int .u8 (z 3)] [.int .u8 (x 0), .int .u8 (x 1), .int .u8 (x 2), .int .u8 (x 3), .int .u8 (x 4), .int .u8 (x 5), .int .u8 (x 6), .int .u8 (x 7), .int .u8 (x 8), .int .u8 (x 9), .int .u8 (x 10), .int .u8 (x 11), .int .u8 (x 12), .int .u8 (x 13), .int .u8 (x 14), .int .u8 (x 15)] := by unfold putW; rw [h1]; rfl
      rw [hw, h1, lay_48 hx hz h3]
      show aIf ((sel (R22 [.agg [.int .u8 (x 0), .int .u8 (x 1), .int .u8 (x 2), .int .u8 (x 3), .int .u8 (x 4), .int .u8 (x 5), .int .u8 (x 6), .int .u8 (x 7), .int .u8 (x 8), .int .u8 (x 9), .int .u8 (x 10), .int .u8 (x 11), .int .u8 (x 12), .int .u8 (x 13), .int .u8 (x 14), .int .u8 (x 15), .int .i64 48]]) []).toInt != 0) (B12e _ [] encK) (B12 [.agg [.int .u8 (x 0), .int .u8 (x 1), .int .u8 (x 2), .int .u8 (x 3), .int .u8 (x 4), .int .u8 (x 5), .int .u8 (x 6), .int .u8 (x 7), .int .u8 (x 8), .int .u8 (x 9), .int .u8 (x 10), .int .u8 (x 11), .int .u8 (x 12), .int .u8 (x 13), .int .u8 (x 14), .int .u8 (x 15), .int .i64 48], .agg [.int .u8 (z 0), .int .u8 (z 1), .int .u8 (z 2), .int .u8 (z 3)]] [] encK) = _
      rw [N12_48, R22_is hx, h1]
      rfl
    · have hw : putW 56 [.int .u8 (x 0), .int .u8 (x 1), .int .u8 (x 2), .int .u8 (x 3), .int .u8 (x 4), .int .u8 (x 5), .int .u8 (x 6), .int .u8 (x 7), .int .u8 (x 8), .int .u8 (x 9), .int .u8 (x 10), .int .u8 (x 11), .int .u8 (x 12), .int .u8 (x 13), .int .u8 (x 14), .int .u8 (x 15)] [.int .u8 (z 0), .int .u8 (z 1), .int .u8 (z 2), .int .u8 (z 3)] = layX 56 [.int .u8 (z 0), .int .u8 (z 1), .int .u8 (z 2), .int .u8 (z 3)] [.int .u8 (x 0), .int .u8 (x 1), .int .u8 (x 2), .int .u8 (x 3), .int .u8 (x 4), .int .u8 (x 5), .int .u8 (x 6), .int .u8 (x 7), .int .u8 (x 8), .int .u8 (x 9), .int .u8 (x 10), .int .u8 (x 11), .int .u8 (x 12), .int .u8 (x 13), .int .u8 (x 14), .int .u8 (x 15)] := by unfold putW; rw [h1]; rfl
      rw [hw, h1, lay_56 hx hz h3]
      show aIf ((sel (R22 [.agg [.int .u8 (x 0), .int .u8 (x 1), .int .u8 (x 2), .int .u8 (x 3), .int .u8 (x 4), .int .u8 (x 5), .int .u8 (x 6), .int .u8 (x 7), .int .u8 (x 8), .int .u8 (x 9), .int .u8 (x 10), .int .u8 (x 11), .int .u8 (x 12), .int .u8 (x 13), .int .u8 (x 14), .int .u8 (x 15), .int .i64 56]]) []).toInt != 0) (B12e _ [] encK) (B12 [.agg [.int .u8 (x 0), .int .u8 (x 1), .int .u8 (x 2), .int .u8 (x 3), .int .u8 (x 4), .int .u8 (x 5), .int .u8 (x 6), .int .u8 (x 7), .int .u8 (x 8), .int .u8 (x 9), .int .u8 (x 10), .int .u8 (x 11), .int .u8 (x 12), .int .u8 (x 13), .int .u8 (x 14), .int .u8 (x 15), .int .i64 56], .agg [.int .u8 (z 0), .int .u8 (z 1), .int .u8 (z 2), .int .u8 (z 3)]] [] encK) = _
      rw [N12_56, R22_is hx, h1]
      rfl
    · have hw : putW 64 [.int .u8 (x 0), .int .u8 (x 1), .int .u8 (x 2), .int .u8 (x 3), .int .u8 (x 4), .int .u8 (x 5), .int .u8 (x 6), .int .u8 (x 7), .int .u8 (x 8), .int .u8 (x 9), .int .u8 (x 10), .int .u8 (x 11), .int .u8 (x 12), .int .u8 (x 13), .int .u8 (x 14), .int .u8 (x 15)] [.int .u8 (z 0), .int .u8 (z 1), .int .u8 (z 2), .int .u8 (z 3)] = layX 64 [.int .u8 (z 0), .int .u8 (z 1), .int .u8 (z 2), .int .u8 (z 3)] [.int .u8 (x 0), .int .u8 (x 1), .int .u8 (x 2), .int .u8 (x 3), .int .u8 (x 4), .int .u8 (x 5), .int .u8 (x 6), .int .u8 (x 7), .int .u8 (x 8), .int .u8 (x 9), .int .u8 (x 10), .int .u8 (x 11), .int .u8 (x 12), .int .u8 (x 13), .int .u8 (x 14), .int .u8 (x 15)] := by unfold putW; rw [h1]; rfl
      rw [hw, h1, lay_64 hx hz h3]
      show aIf ((sel (R22 [.agg [.int .u8 (x 0), .int .u8 (x 1), .int .u8 (x 2), .int .u8 (x 3), .int .u8 (x 4), .int .u8 (x 5), .int .u8 (x 6), .int .u8 (x 7), .int .u8 (x 8), .int .u8 (x 9), .int .u8 (x 10), .int .u8 (x 11), .int .u8 (x 12), .int .u8 (x 13), .int .u8 (x 14), .int .u8 (x 15), .int .i64 64]]) []).toInt != 0) (B12e _ [] encK) (B12 [.agg [.int .u8 (x 0), .int .u8 (x 1), .int .u8 (x 2), .int .u8 (x 3), .int .u8 (x 4), .int .u8 (x 5), .int .u8 (x 6), .int .u8 (x 7), .int .u8 (x 8), .int .u8 (x 9), .int .u8 (x 10), .int .u8 (x 11), .int .u8 (x 12), .int .u8 (x 13), .int .u8 (x 14), .int .u8 (x 15), .int .i64 64], .agg [.int .u8 (z 0), .int .u8 (z 1), .int .u8 (z 2), .int .u8 (z 3)]] [] encK) = _
      rw [N12_64, R22_is hx, h1]
      rfl
    · have hw : putW 96 [.int .u8 (x 0), .int .u8 (x 1), .int .u8 (x 2), .int .u8 (x 3), .int .u8 (x 4), .int .u8 (x 5), .int .u8 (x 6), .int .u8 (x 7), .int .u8 (x 8), .int .u8 (x 9), .int .u8 (x 10), .int .u8 (x 11), .int .u8 (x 12), .int .u8 (x 13), .int .u8 (x 14), .int .u8 (x 15)] [.int .u8 (z 0), .int .u8 (z 1), .int .u8 (z 2), .int .u8 (z 3)] = layX 96 [.int .u8 (z 0), .int .u8 (z 1), .int .u8 (z 2), .int .u8 (z 3)] [.int .u8 (x 0), .int .u8 (x 1), .int .u8 (x 2), .int .u8 (x 3), .int .u8 (x 4), .int .u8 (x 5), .int .u8 (x 6), .int .u8 (x 7), .int .u8 (x 8), .int .u8 (x 9), .int .u8 (x 10), .int .u8 (x 11), .int .u8 (x 12), .int .u8 (x 13), .int .u8 (x 14), .int .u8 (x 15)] := by unfold putW; rw [h1]; rfl
      rw [hw, h1, lay_96 hx hz h3]
      show aIf ((sel (R22 [.agg [.int .u8 (x 0), .int .u8 (x 1), .int .u8 (x 2), .int .u8 (x 3), .int .u8 (x 4), .int .u8 (x 5), .int .u8 (x 6), .int .u8 (x 7), .int .u8 (x 8), .int .u8 (x 9), .int .u8 (x 10), .int .u8 (x 11), .int .u8 (x 12), .int .u8 (x 13), .int .u8 (x 14), .int .u8 (x 15), .int .i64 96]]) []).toInt != 0) (B12e _ [] encK) (B12 [.agg [.int .u8 (x 0), .int .u8 (x 1), .int .u8 (x 2), .int .u8 (x 3), .int .u8 (x 4), .int .u8 (x 5), .int .u8 (x 6), .int .u8 (x 7), .int .u8 (x 8), .int .u8 (x 9), .int .u8 (x 10), .int .u8 (x 11), .int .u8 (x 12), .int .u8 (x 13), .int .u8 (x 14), .int .u8 (x 15), .int .i64 96], .agg [.int .u8 (z 0), .int .u8 (z 1), .int .u8 (z 2), .int .u8 (z 3)]] [] encK) = _
      rw [N12_96, R22_is hx, h1]
      rfl
  · have h0 : embE [.int .u8 (x 0), .int .u8 (x 1), .int .u8 (x 2), .int .u8 (x 3), .int .u8 (x 4), .int .u8 (x 5), .int .u8 (x 6), .int .u8 (x 7), .int .u8 (x 8), .int .u8 (x 9), .int .u8 (x 10), .int .u8 (x 11), .int .u8 (x 12), .int .u8 (x 13), .int .u8 (x 14), .int .u8 (x 15)] n ≠ 0 := by rcases h1 with h | h | h <;> rw [h] <;> decide
    have hw : putW n [.int .u8 (x 0), .int .u8 (x 1), .int .u8 (x 2), .int .u8 (x 3), .int .u8 (x 4), .int .u8 (x 5), .int .u8 (x 6), .int .u8 (x 7), .int .u8 (x 8), .int .u8 (x 9), .int .u8 (x 10), .int .u8 (x 11), .int .u8 (x 12), .int .u8 (x 13), .int .u8 (x 14), .int .u8 (x 15)] [.int .u8 (z 0), .int .u8 (z 1), .int .u8 (z 2), .int .u8 (z 3)] = z16 := by unfold putW; rw [show (embE [.int .u8 (x 0), .int .u8 (x 1), .int .u8 (x 2), .int .u8 (x 3), .int .u8 (x 4), .int .u8 (x 5), .int .u8 (x 6), .int .u8 (x 7), .int .u8 (x 8), .int .u8 (x 9), .int .u8 (x 10), .int .u8 (x 11), .int .u8 (x 12), .int .u8 (x 13), .int .u8 (x 14), .int .u8 (x 15)] n == 0) = false from beq_eq_false_iff_ne.2 h0]; rfl
    have hk := embE_in [.int .u8 (x 0), .int .u8 (x 1), .int .u8 (x 2), .int .u8 (x 3), .int .u8 (x 4), .int .u8 (x 5), .int .u8 (x 6), .int .u8 (x 7), .int .u8 (x 8), .int .u8 (x 9), .int .u8 (x 10), .int .u8 (x 11), .int .u8 (x 12), .int .u8 (x 13), .int .u8 (x 14), .int .u8 (x 15)] n
    have hb : (embE [.int .u8 (x 0), .int .u8 (x 1), .int .u8 (x 2), .int .u8 (x 3), .int .u8 (x 4), .int .u8 (x 5), .int .u8 (x 6), .int .u8 (x 7), .int .u8 (x 8), .int .u8 (x 9), .int .u8 (x 10), .int .u8 (x 11), .int .u8 (x 12), .int .u8 (x 13), .int .u8 (x 14), .int .u8 (x 15)] n != 0) = true := bne_iff_ne.2 h0
    rw [hw]
    show aIf ((sel (R22 [.agg [.int .u8 (x 0), .int .u8 (x 1), .int .u8 (x 2), .int .u8 (x 3), .int .u8 (x 4), .int .u8 (x 5), .int .u8 (x 6), .int .u8 (x 7), .int .u8 (x 8), .int .u8 (x 9), .int .u8 (x 10), .int .u8 (x 11), .int .u8 (x 12), .int .u8 (x 13), .int .u8 (x 14), .int .u8 (x 15), .int .i64 n]]) []).toInt != 0) (B12e [.agg [.int .u8 (x 0), .int .u8 (x 1), .int .u8 (x 2), .int .u8 (x 3), .int .u8 (x 4), .int .u8 (x 5), .int .u8 (x 6), .int .u8 (x 7), .int .u8 (x 8), .int .u8 (x 9), .int .u8 (x 10), .int .u8 (x 11), .int .u8 (x 12), .int .u8 (x 13), .int .u8 (x 14), .int .u8 (x 15), .int .i64 n], .agg [.int .u8 (z 0), .int .u8 (z 1), .int .u8 (z 2), .int .u8 (z 3)]] [] encK) (B12 _ [] encK) = _
    rw [N12e, R22_is hx]
    have si : ∀ k n, sel (some (AEnd.ret (AV.int k n), [])) [] = .int k n := fun _ _ => rfl
    simp only [si, AV.toInt, shOK_ret, has_int, hk, hb, aIf_true]
    rfl

/-- ferryman/ferrymanref02.Low6 -/
noncomputable def T42 : List (FuncId × FSpec) := []
theorem T42_ok : TabOK Tryd.prog T42 := TabOK.nil _
noncomputable def L42_2 : ATs → AH → KC → Res := fun ts H k => match ts, H with
  | [(2, .ptr 0 0 0), (5, .int .i64 i)], [.cells 0 xs] => aIf (intsB .u8 xs && xs.length == 16 && decide (0 ≤ i) && decide (i ≤ 128)) (aIf (lowB xs i.toNat) (k (.exit 0) [(2, .ptr 0 0 0), (5, .int .i64 128), (8, .bool false)] [.cells 0 xs]) (k .ret [(4, .bool false)] [.cells 0 xs])) none
  | _, _ => none
noncomputable def C42 : Ctx := (ctx E T42 [(2, L42_2)] [(0, [1, 2]), (1, [2, 5]), (2, [2, 5, 8]), (3, [2, 5]), (4, [2, 5, 20]), (5, [4]), (6, [4]), (1000002, [2, 5])] [] 21 200)
theorem C42_ok : CtxOK Tryd.prog C42 := ctx_ok E_ok E_flds mixed T42_ok
theorem C42_l0 : C42.loop (loopId (loopB Tryd.f42 0)) = some L42_2 := by kernel_rfl
theorem L42_2_in : LoopsOK C42 (loopB Tryd.f42 0) := LoopsOK.within 0 (by kernel_rfl) (fun j hj S hS => by
  omega)
theorem M42_2a (i : Int) (xs : List AV) (k : KC) : headedK C42 (loopB Tryd.f42 0) [(2, .ptr 0 0 0), (5, .int .i64 i)] [.cells 0 xs] k =
  aIf (decide (i < 128)) (aIf (decide (0 ≤ IntKind.i64.wrap (i.tdiv 8))) (aIf (decide (IntKind.i64.wrap (i.tdiv 8) < 16)) (aIf (decide (0 + (IntKind.i64.wrap (i.tdiv 8)).toNat * 1 + 1 ≤ xs.length)) (aIf ((xs.getD (0 + (IntKind.i64.wrap (i.tdiv 8)).toNat * 1) AV.junk).isInt IntKind.u8) (aIf (decide (IntKind.i64.wrap (7 - i.tmod 8) < 0)) none (aIf (IntKind.u8.wrap (↑(BitVec.ofInt 8 ((xs.getD (0 + (IntKind.i64.wrap (i.tdiv 8)).toNat * 1) AV.junk).toInt.fdiv (2 ^ min (IntKind.i64.wrap (7 - i.tmod 8)).toNat 8)) &&& BitVec.ofInt 8 1).toNat : Int) == 1) (k AExit.ret [(4, AV.bool false)] [AO.cells 0 xs]) (k AExit.normal [(2, AV.ptr 0 0 0), (5, AV.int IntKind.i64 (IntKind.i64.wrap (i + 1)))] [AO.cells 0 xs]))) none) none) none) none) (k (AExit.exit 0) [(2, AV.ptr 0 0 0), (5, AV.int IntKind.i64 i), (8, AV.bool (decide (i < 128)))] [AO.cells 0 xs]) := by kernel_rfl
theorem L42_2_ok : LoopSum C42 (loopB Tryd.f42 0) L42_2 := LoopSum.of C42_ok L42_2_in (fun ts H => by
  unfold L42_2
  split
  · rename_i i xs
    rcases Bool.eq_false_or_eq_true (intsB .u8 xs && xs.length == 16 && decide (0 ≤ i) && decide (i ≤ 128)) with hp | hp
    · refine .inr ?_
      simp only [aIf_pos hp]
      simp only [Bool.and_eq_true, decide_eq_true_eq, beq_iff_eq] at hp
      obtain ⟨⟨⟨hu, hL⟩, h0⟩, h1⟩ := hp
      obtain ⟨i, rfl⟩ := Int.eq_ofNat_of_zero_le h0
      have key : ∀ j : Nat, j < 128 → ∀ k, headedK C42 (loopB Tryd.f42 0) [(2, .ptr 0 0 0), (5, .int .i64 (j : Int))] [.cells 0 xs] k = aIf (bitV xs j == 1) (k .ret [(4, .bool false)] [.cells 0 xs]) (k .normal [(2, .ptr 0 0 0), (5, .int .i64 ((j + 1 : Nat) : Int))] [.cells 0 xs]) := by
        intro j hj k
        obtain ⟨x, hx, he⟩ := u8_get hu (j / 8) (by omega)
        rw [M42_2a]
        simp only [decide_eq_true (show (j : Int) < 128 by omega), div8 (show j < 9223372036854775808 by omega), sh7 j, decide_eq_true (show ((j / 8 : Nat) : Int) < 16 by omega), decide_eq_true (show j / 8 + 1 ≤ xs.length by omega), show min (7 - j % 8) 8 = 7 - j % 8 by omega, he, bit8 hx (show 7 - j % 8 < 8 by omega), bitEq he, i64s (show j + 1 < 9223372036854775808 by omega), Int.toNat_natCast, Nat.zero_add, Nat.mul_one, isInt_self, AV.toInt, dnn, dnn', aIf_true, aIf_false, shr_eq]
      have hl : lowB xs (i : Int).toNat = noneB (fun j => bitV xs j == 1) (128 - i) i := by rw [Int.toNat_natCast]; unfold lowB; rw [hL]
      rw [hl]
      exact (iter_scan (N := 128) (ts := fun j => [(2, .ptr 0 0 0), (5, .int .i64 (j : Int))]) (H := [.cells 0 xs]) (b := fun j => bitV xs j == 1) (fun j hj hb k => (key j hj k).trans (aIf_pos hb)) (fun j hj hb k => (key j hj k).trans (aIf_neg hb))
        (fun k => by rw [M42_2a]; rfl) (by intro h; cases h) (by intro h; cases h) (128 - i) i (by omega)).imp fun m hm k => (hm k).symm
    · exact .inl fun k => by rw [aIf_neg hp]
  · exact .inl fun k => rfl)
theorem C42_loops : ∀ c, Tryd.f42.body = some c → LoopsOK C42 c := LoopsOK.of 1 (by kernel_rfl) (fun j hj S hS => by
  match j, hj with
  | 0, _ => rw [C42_l0] at hS; cases hS; exact L42_2_ok
  | n + 1, hj => omega)
noncomputable def S42 : FSpec := inlineK C42 Tryd.f42
theorem S42_ok : SpecOK Tryd.prog 42 S42 := inlineK_ok C42_ok Tryd.func42 C42_loops
theorem En42 : Enters Tryd.prog 42 := ⟨_, Tryd.func42, by decide, rfl⟩
noncomputable def R42 (args : List AV) : Res := S42 args [] encK
noncomputable def V42 : FSpec := leafK (.bool) R42
theorem V42_ok : SpecOK Tryd.prog 42 V42 := leafK_ok S42_ok (fun _ => rfl)
theorem N42 (x : Nat → Int) (i : Int) : S42 [.agg [.int .u8 (x 0), .int .u8 (x 1), .int .u8 (x 2), .int .u8 (x 3), .int .u8 (x 4), .int .u8 (x 5), .int .u8 (x 6), .int .u8 (x 7), .int .u8 (x 8), .int .u8 (x 9), .int .u8 (x 10), .int .u8 (x 11), .int .u8 (x 12), .int .u8 (x 13), .int .u8 (x 14), .int .u8 (x 15)], .int .i64 i] [] encK =
  aIf (true && (decide (0 ≤ x 0) && decide (x 0 ≤ 255)) && (true && (decide (0 ≤ x 1) && decide (x 1 ≤ 255)) && (true && (decide (0 ≤ x 2) && decide (x 2 ≤ 255)) && (true && (decide (0 ≤ x 3) && decide (x 3 ≤ 255)) && (true && (decide (0 ≤ x 4) && decide (x 4 ≤ 255)) && (true && (decide (0 ≤ x 5) && decide (x 5 ≤ 255)) && (true && (decide (0 ≤ x 6) && decide (x 6 ≤ 255)) && (true && (decide (0 ≤ x 7) && decide (x 7 ≤ 255)) && (true && (decide (0 ≤ x 8) && decide (x 8 ≤ 255)) && (true && (decide (0 ≤ x 9) && decide (x 9 ≤ 255)) && (true && (decide (0 ≤ x 10) && decide (x 10 ≤ 255)) && (true && (decide (0 ≤ x 11) && decide (x 11 ≤ 255)) && (true && (decide (0 ≤ x 12) && decide (x 12 ≤ 255)) && (true && (decide (0 ≤ x 13) && decide (x 13 ≤ 255)) && (true && (decide (0 ≤ x 14) && decide (x 14 ≤ 255)) && (true && (decide (0 ≤ x 15) && decide (x 15 ≤ 255)) && true))))))))))))))) && true && decide (0 ≤ i) && decide (i ≤ 128)) (aIf (Pl.lowB [AV.int IntKind.u8 (x 0), AV.int IntKind.u8 (x 1), AV.int IntKind.u8 (x 2), AV.int IntKind.u8 (x 3), AV.int IntKind.u8 (x 4), AV.int IntKind.u8 (x 5), AV.int IntKind.u8 (x 6), AV.int IntKind.u8 (x 7), AV.int IntKind.u8 (x 8), AV.int IntKind.u8 (x 9), AV.int IntKind.u8 (x 10), AV.int IntKind.u8 (x 11), AV.int IntKind.u8 (x 12), AV.int IntKind.u8 (x 13), AV.int IntKind.u8 (x 14), AV.int IntKind.u8 (x 15)] i.toNat) (some (AEnd.ret (AV.bool true), [])) (some (AEnd.ret (AV.bool false), []))) none := by kernel_rfl
theorem R42_is {x : Nat → Int} {i : Int} (hu : intsB .u8 [.int .u8 (x 0), .int .u8 (x 1), .int .u8 (x 2), .int .u8 (x 3), .int .u8 (x 4), .int .u8 (x 5), .int .u8 (x 6), .int .u8 (x 7), .int .u8 (x 8), .int .u8 (x 9), .int .u8 (x 10), .int .u8 (x 11), .int .u8 (x 12), .int .u8 (x 13), .int .u8 (x 14), .int .u8 (x 15)] = true) (h0 : 0 ≤ i) (h1 : i ≤ 128) : R42 [.agg [.int .u8 (x 0), .int .u8 (x 1), .int .u8 (x 2), .int .u8 (x 3), .int .u8 (x 4), .int .u8 (x 5), .int .u8 (x 6), .int .u8 (x 7), .int .u8 (x 8), .int .u8 (x 9), .int .u8 (x 10), .int .u8 (x 11), .int .u8 (x 12), .int .u8 (x 13), .int .u8 (x 14), .int .u8 (x 15)], .int .i64 i] = some (.ret (.bool (lowB [.int .u8 (x 0), .int .u8 (x 1), .int .u8 (x 2), .int .u8 (x 3), .int .u8 (x 4), .int .u8 (x 5), .int .u8 (x 6), .int .u8 (x 7), .int .u8 (x 8), .int .u8 (x 9), .int .u8 (x 10), .int .u8 (x 11), .int .u8 (x 12), .int .u8 (x 13), .int .u8 (x 14), .int .u8 (x 15)] i.toNat)), []) := by
  show S42 _ [] encK = _
  rw [N42]
  refine (aIf_pos ?_).trans ?_
  · have : (intsB .u8 [.int .u8 (x 0), .int .u8 (x 1), .int .u8 (x 2), .int .u8 (x 3), .int .u8 (x 4), .int .u8 (x 5), .int .u8 (x 6), .int .u8 (x 7), .int .u8 (x 8), .int .u8 (x 9), .int .u8 (x 10), .int .u8 (x 11), .int .u8 (x 12), .int .u8 (x 13), .int .u8 (x 14), .int .u8 (x 15)] && ([.int .u8 (x 0), .int .u8 (x 1), .int .u8 (x 2), .int .u8 (x 3), .int .u8 (x 4), .int .u8 (x 5), .int .u8 (x 6), .int .u8 (x 7), .int .u8 (x 8), .int .u8 (x 9), .int .u8 (x 10), .int .u8 (x 11), .int .u8 (x 12), .int .u8 (x 13), .int .u8 (x 14), .int .u8 (x 15)] : List AV).length == 16 && decide (0 ≤ i) && decide (i ≤ 128)) = true := by rw [hu, decide_eq_true h0, decide_eq_true h1]; rfl
    exact this
  · cases lowB [.int .u8 (x 0), .int .u8 (x 1), .int .u8 (x 2), .int .u8 (x 3), .int .u8 (x 4), .int .u8 (x 5), .int .u8 (x 6), .int .u8 (x 7), .int .u8 (x 8), .int .u8 (x 9), .int .u8 (x 10), .int .u8 (x 11), .int .u8 (x 12), .int .u8 (x 13), .int .u8 (x 14), .int .u8 (x 15)] i.toNat <;> rfl

/-- ferryman/ferrymanref02.Check6 -/
noncomputable def T34 : List (FuncId × FSpec) := [(42, V42)]
theorem T34_ok : TabOK Tryd.prog T34 := TabOK.cons En42 V42_ok (TabOK.nil _)
noncomputable def C34 : Ctx := (ctx E T34 [] [(0, [1]), (1, [18]), (2, [2]), (3, [2])] [] 19 70)
theorem C34_ok : CtxOK Tryd.prog C34 := ctx_ok E_ok E_flds mixed T34_ok
noncomputable def S34 : FSpec := inlineK C34 Tryd.f34
theorem S34_ok : SpecOK Tryd.prog 34 S34 := inlineK_ok C34_ok Tryd.func34 (fun _ _ => LoopsOK.none _)
theorem En34 : Enters Tryd.prog 34 := ⟨_, Tryd.func34, by decide, rfl⟩
noncomputable def R34 (args : List AV) : Res := S34 args [] encK
noncomputable def V34 : FSpec := leafK (.int .i64) R34
theorem V34_ok : SpecOK Tryd.prog 34 V34 := leafK_ok S34_ok (fun _ => rfl)
theorem N34 (x : Nat → Int) (n : Int) : S34 [.agg [.int .u8 (x 0), .int .u8 (x 1), .int .u8 (x 2), .int .u8 (x 3), .int .u8 (x 4), .int .u8 (x 5), .int .u8 (x 6), .int .u8 (x 7), .int .u8 (x 8), .int .u8 (x 9), .int .u8 (x 10), .int .u8 (x 11), .int .u8 (x 12), .int .u8 (x 13), .int .u8 (x 14), .int .u8 (x 15), .int .i64 n]] [] encK =
  aIf (decide (n < 0)) (some (AEnd.ret (AV.int IntKind.i64 22), [])) (aIf (decide (n > 128)) (some (AEnd.ret (AV.int IntKind.i64 22), [])) (aIf (shOK Sh.bool (R42 [AV.agg [AV.int IntKind.u8 (x 0), AV.int IntKind.u8 (x 1), AV.int IntKind.u8 (x 2), AV.int IntKind.u8 (x 3), AV.int IntKind.u8 (x 4), AV.int IntKind.u8 (x 5), AV.int IntKind.u8 (x 6), AV.int IntKind.u8 (x 7), AV.int IntKind.u8 (x 8), AV.int IntKind.u8 (x 9), AV.int IntKind.u8 (x 10), AV.int IntKind.u8 (x 11), AV.int IntKind.u8 (x 12), AV.int IntKind.u8 (x 13), AV.int IntKind.u8 (x 14), AV.int IntKind.u8 (x 15)], AV.int IntKind.i64 n])) (aIf (!(sel (R42 [AV.agg [AV.int IntKind.u8 (x 0), AV.int IntKind.u8 (x 1), AV.int IntKind.u8 (x 2), AV.int IntKind.u8 (x 3), AV.int IntKind.u8 (x 4), AV.int IntKind.u8 (x 5), AV.int IntKind.u8 (x 6), AV.int IntKind.u8 (x 7), AV.int IntKind.u8 (x 8), AV.int IntKind.u8 (x 9), AV.int IntKind.u8 (x 10), AV.int IntKind.u8 (x 11), AV.int IntKind.u8 (x 12), AV.int IntKind.u8 (x 13), AV.int IntKind.u8 (x 14), AV.int IntKind.u8 (x 15)], AV.int IntKind.i64 n]) []).toBool) (some (AEnd.ret (AV.int IntKind.i64 22), [])) (some (AEnd.ret (AV.int IntKind.i64 0), []))) none)) := by kernel_rfl
theorem R34_is {x : Nat → Int} {n : Int} (hx : b8 x) : R34 [.agg [.int .u8 (x 0), .int .u8 (x 1), .int .u8 (x 2), .int .u8 (x 3), .int .u8 (x 4), .int .u8 (x 5), .int .u8 (x 6), .int .u8 (x 7), .int .u8 (x 8), .int .u8 (x 9), .int .u8 (x 10), .int .u8 (x 11), .int .u8 (x 12), .int .u8 (x 13), .int .u8 (x 14), .int .u8 (x 15), .int .i64 n]] = some (.ret (.int .i64 (chkE 128 [.int .u8 (x 0), .int .u8 (x 1), .int .u8 (x 2), .int .u8 (x 3), .int .u8 (x 4), .int .u8 (x 5), .int .u8 (x 6), .int .u8 (x 7), .int .u8 (x 8), .int .u8 (x 9), .int .u8 (x 10), .int .u8 (x 11), .int .u8 (x 12), .int .u8 (x 13), .int .u8 (x 14), .int .u8 (x 15)] n)), []) := by
  show S34 _ [] encK = _
  have ti : ∀ k n, (AV.int k n).toInt = n := fun _ _ => rfl
  have tb : ∀ b, (AV.bool b).toBool = b := fun _ => rfl
  have si : ∀ k n, sel (some (AEnd.ret (AV.int k n), [])) [] = .int k n := fun _ _ => rfl
  have sb : ∀ b, sel (some (AEnd.ret (AV.bool b), [])) [] = .bool b := fun _ => rfl
  rw [N34]
  unfold chkE
  cases h1 : decide (n < 0)
  · cases h2 : decide (n > 128)
    · have g1 := of_decide_eq_false h1
      have g2 := of_decide_eq_false h2
      have e := R42_is (b8_16 hx) (i := n) (by omega) (by omega)
      simp only [e, shOK_ret, has_bool, sb, tb, aIf_true, aIf_false, cond_false]
      cases lowB [.int .u8 (x 0), .int .u8 (x 1), .int .u8 (x 2), .int .u8 (x 3), .int .u8 (x 4), .int .u8 (x 5), .int .u8 (x 6), .int .u8 (x 7), .int .u8 (x 8), .int .u8 (x 9), .int .u8 (x 10), .int .u8 (x 11), .int .u8 (x 12), .int .u8 (x 13), .int .u8 (x 14), .int .u8 (x 15)] n.toNat <;> rfl
    · rfl
  · rfl

/-- ferryman/ferrymanref02.slash -/
noncomputable def T45 : List (FuncId × FSpec) := []
theorem T45_ok : TabOK Tryd.prog T45 := TabOK.nil _
noncomputable def C45 : Ctx := (ctx E T45 [] [(0, [0]), (1, [0, 3]), (2, [0, 3, 13]), (3, [0, 3]), (4, [2]), (1000002, [0, 3])] [] 17 70)
theorem C45_ok : CtxOK Tryd.prog C45 := ctx_ok E_ok E_flds mixed T45_ok
noncomputable def S45 : FSpec := inlineK C45 Tryd.f45
theorem S45_ok : SpecOK Tryd.prog 45 S45 := inlineK_ok C45_ok Tryd.func45 (fun _ _ => LoopsOK.none _)
theorem En45 : Enters Tryd.prog 45 := ⟨_, Tryd.func45, by decide, rfl⟩

/-- ferryman/ferrymanref02.split -/
noncomputable def T51 : List (FuncId × FSpec) := []
theorem T51_ok : TabOK Tryd.prog T51 := TabOK.nil _
noncomputable def C51 : Ctx := (ctx E T51 [] [(0, [0, 1]), (1, [0, 1, 5]), (2, [0, 1, 5, 6]), (3, [0, 1, 5, 6, 7]), (4, [0, 1, 5, 6, 7, 11]), (5, [0, 1, 5, 6, 7]), (6, [0, 1, 5, 6, 7, 24]), (7, [0, 1, 5, 7]), (8, [0, 1, 5, 6, 7]), (9, [4]), (1000004, [0, 1, 5, 6, 7])] [] 35 70)
theorem C51_ok : CtxOK Tryd.prog C51 := ctx_ok E_ok E_flds mixed T51_ok
noncomputable def S51 : FSpec := inlineK C51 Tryd.f51
theorem S51_ok : SpecOK Tryd.prog 51 S51 := inlineK_ok C51_ok Tryd.func51 (fun _ _ => LoopsOK.none _)
theorem En51 : Enters Tryd.prog 51 := ⟨_, Tryd.func51, by decide, rfl⟩

/-- ferryman/ferrymanref02.digit -/
noncomputable def T62 : List (FuncId × FSpec) := []
theorem T62_ok : TabOK Tryd.prog T62 := TabOK.nil _
noncomputable def C62 : Ctx := (ctx E T62 [] [(0, [0]), (1, [2])] [] 9 70)
theorem C62_ok : CtxOK Tryd.prog C62 := ctx_ok E_ok E_flds mixed T62_ok
noncomputable def S62 : FSpec := inlineK C62 Tryd.f62
theorem S62_ok : SpecOK Tryd.prog 62 S62 := inlineK_ok C62_ok Tryd.func62 (fun _ _ => LoopsOK.none _)
theorem En62 : Enters Tryd.prog 62 := ⟨_, Tryd.func62, by decide, rfl⟩

/-- ferryman/ferrymanref02.octet -/
noncomputable def T57 : List (FuncId × FSpec) := [(62, S62)]
theorem T57_ok : TabOK Tryd.prog T57 := TabOK.cons En62 S62_ok (TabOK.nil _)
noncomputable def C57 : Ctx := (ctx E T57 [] [(0, [0, 1]), (1, [0, 1, 8]), (2, [4]), (3, [0, 1, 21]), (4, [4]), (5, [0, 1, 5]), (6, [0, 1, 5, 6]), (7, [0, 1, 5, 6, 25]), (8, [0, 1, 5, 6]), (9, [0, 1, 5, 6, 32]), (10, [4]), (11, [0, 1, 5, 6]), (12, [4]), (1000007, [0, 1, 5, 6])] [] 44 70)
theorem C57_ok : CtxOK Tryd.prog C57 := ctx_ok E_ok E_flds mixed T57_ok
noncomputable def S57 : FSpec := inlineK C57 Tryd.f57
theorem S57_ok : SpecOK Tryd.prog 57 S57 := inlineK_ok C57_ok Tryd.func57 (fun _ _ => LoopsOK.none _)
theorem En57 : Enters Tryd.prog 57 := ⟨_, Tryd.func57, by decide, rfl⟩

/-- ferryman/ferrymanref02.Begins4 -/
noncomputable def T49 : List (FuncId × FSpec) := [(51, S51), (57, S57)]
theorem T49_ok : TabOK Tryd.prog T49 := TabOK.cons En51 S51_ok (TabOK.cons En57 S57_ok (TabOK.nil _))
noncomputable def C49 : Ctx := (ctx E T49 [] [(0, [0]), (1, [3]), (2, [3, 9]), (3, [2]), (4, [3, 4]), (5, [3, 4, 13]), (6, [3, 4]), (7, [3, 4, 35]), (8, [2]), (9, [2]), (1000005, [3, 4])] [] 36 70)
theorem C49_ok : CtxOK Tryd.prog C49 := ctx_ok E_ok E_flds mixed T49_ok
noncomputable def S49 : FSpec := inlineK C49 Tryd.f49
theorem S49_ok : SpecOK Tryd.prog 49 S49 := inlineK_ok C49_ok Tryd.func49 (fun _ _ => LoopsOK.none _)
theorem En49 : Enters Tryd.prog 49 := ⟨_, Tryd.func49, by decide, rfl⟩

/-- ferryman/ferrymanref02.worth -/
noncomputable def T67 : List (FuncId × FSpec) := [(62, S62)]
theorem T67_ok : TabOK Tryd.prog T67 := TabOK.cons En62 S62_ok (TabOK.nil _)
noncomputable def C67 : Ctx := (ctx E T67 [] [(0, [0]), (1, [0, 3]), (2, [2]), (3, [0, 9]), (4, [2]), (5, [0, 20]), (6, [2]), (7, [2])] [] 31 70)
theorem C67_ok : CtxOK Tryd.prog C67 := ctx_ok E_ok E_flds mixed T67_ok
noncomputable def S67 : FSpec := inlineK C67 Tryd.f67
theorem S67_ok : SpecOK Tryd.prog 67 S67 := inlineK_ok C67_ok Tryd.func67 (fun _ _ => LoopsOK.none _)
theorem En67 : Enters Tryd.prog 67 := ⟨_, Tryd.func67, by decide, rfl⟩

/-- ferryman/ferrymanref02.group -/
noncomputable def T59 : List (FuncId × FSpec) := [(67, S67)]
theorem T59_ok : TabOK Tryd.prog T59 := TabOK.cons En67 S67_ok (TabOK.nil _)
noncomputable def C59 : Ctx := (ctx E T59 [] [(0, [0]), (1, [0, 3]), (2, [0, 3, 7]), (3, [0, 3]), (4, [0, 3, 14]), (5, [2]), (6, [2]), (1000002, [0, 3])] [] 23 70)
theorem C59_ok : CtxOK Tryd.prog C59 := ctx_ok E_ok E_flds mixed T59_ok
noncomputable def S59 : FSpec := inlineK C59 Tryd.f59
theorem S59_ok : SpecOK Tryd.prog 59 S59 := inlineK_ok C59_ok Tryd.func59 (fun _ _ => LoopsOK.none _)
theorem En59 : Enters Tryd.prog 59 := ⟨_, Tryd.func59, by decide, rfl⟩

/-- (ferryman/ferrymanref02.Six).room -/
noncomputable def T60 : List (FuncId × FSpec) := []
theorem T60_ok : TabOK Tryd.prog T60 := TabOK.nil _
noncomputable def C60 : Ctx := (ctx E T60 [] [(0, [1]), (1, [5]), (2, [2]), (3, [2])] [] 6 70)
theorem C60_ok : CtxOK Tryd.prog C60 := ctx_ok E_ok E_flds mixed T60_ok
noncomputable def S60 : FSpec := inlineK C60 Tryd.f60
theorem S60_ok : SpecOK Tryd.prog 60 S60 := inlineK_ok C60_ok Tryd.func60 (fun _ _ => LoopsOK.none _)
theorem En60 : Enters Tryd.prog 60 := ⟨_, Tryd.func60, by decide, rfl⟩

/-- ferryman/ferrymanref02.value -/
noncomputable def T61 : List (FuncId × FSpec) := [(67, S67)]
theorem T61_ok : TabOK Tryd.prog T61 := TabOK.cons En67 S67_ok (TabOK.nil _)
noncomputable def C61 : Ctx := (ctx E T61 [] [(0, [0]), (1, [0, 3]), (2, [0, 3, 4]), (3, [0, 3, 4, 8]), (4, [0, 3, 4]), (5, [0, 3, 4]), (6, [2]), (1000003, [0, 3, 4])] [] 19 70)
theorem C61_ok : CtxOK Tryd.prog C61 := ctx_ok E_ok E_flds mixed T61_ok
noncomputable def S61 : FSpec := inlineK C61 Tryd.f61
theorem S61_ok : SpecOK Tryd.prog 61 S61 := inlineK_ok C61_ok Tryd.func61 (fun _ _ => LoopsOK.none _)
theorem En61 : Enters Tryd.prog 61 := ⟨_, Tryd.func61, by decide, rfl⟩

/-- ferryman/ferrymanref02.Read6 -/
noncomputable def T55 : List (FuncId × FSpec) := [(49, S49), (59, S59), (60, S60), (61, S61)]
theorem T55_ok : TabOK Tryd.prog T55 := TabOK.cons En49 S49_ok (TabOK.cons En59 S59_ok (TabOK.cons En60 S60_ok (TabOK.cons En61 S61_ok (TabOK.nil _))))
noncomputable def C55 : Ctx := (ctx E T55 [] [(0, [0, 2]), (1, [0, 2, 4]), (2, [0, 2, 4, 5]), (3, [0, 2, 4, 5, 15]), (4, [0, 2, 4, 5, 6]), (5, [0, 2, 4, 5, 9]), (6, [0, 2, 4, 5, 9, 10]), (7, [0, 2, 4, 5, 9, 64]), (8, [2, 3]), (9, [0, 2, 4, 5]), (10, [0, 2, 4, 5, 6, 69]), (11, [0, 2, 4, 5, 7]), (12, [0, 2, 4, 5, 7, 8]), (13, [0, 2, 4, 5, 8, 104]), (14, [2, 3]), (15, [0, 2, 4, 5, 107]), (16, [0, 2, 4, 5]), (17, [0, 2, 4, 5, 112]), (18, [0, 2, 4, 5, 127]), (19, [2, 3]), (20, [0, 2, 4, 5]), (21, [0, 2, 4, 5]), (22, [0, 2, 4, 5, 139]), (23, [2, 3]), (24, [0, 2, 4, 5]), (25, [2, 3]), (1000003, [0, 2, 4, 5])] [1000060] 153 70)
theorem C55_ok : CtxOK Tryd.prog C55 := ctx_ok E_ok E_flds mixed T55_ok
noncomputable def S55 : FSpec := inlineK C55 Tryd.f55
theorem S55_ok : SpecOK Tryd.prog 55 S55 := inlineK_ok C55_ok Tryd.func55 (fun _ _ => LoopsOK.none _)
theorem En55 : Enters Tryd.prog 55 := ⟨_, Tryd.func55, by decide, rfl⟩

/-- ferryman/ferrymanref02.number -/
noncomputable def T48 : List (FuncId × FSpec) := []
theorem T48_ok : TabOK Tryd.prog T48 := TabOK.nil _
noncomputable def C48 : Ctx := (ctx E T48 [] [(0, [0]), (1, [0, 3]), (2, [0, 3, 4]), (3, [0, 3, 4, 8]), (4, [0, 3, 4]), (5, [0, 3, 4]), (6, [2]), (1000003, [0, 3, 4])] [] 20 70)
theorem C48_ok : CtxOK Tryd.prog C48 := ctx_ok E_ok E_flds mixed T48_ok
noncomputable def S48 : FSpec := inlineK C48 Tryd.f48
theorem S48_ok : SpecOK Tryd.prog 48 S48 := inlineK_ok C48_ok Tryd.func48 (fun _ _ => LoopsOK.none _)
theorem En48 : Enters Tryd.prog 48 := ⟨_, Tryd.func48, by decide, rfl⟩

/-- ferryman/ferrymanref02.Whole4 -/
noncomputable def T50 : List (FuncId × FSpec) := [(49, S49), (51, S51)]
theorem T50_ok : TabOK Tryd.prog T50 := TabOK.cons En49 S49_ok (TabOK.cons En51 S51_ok (TabOK.nil _))
noncomputable def C50 : Ctx := (ctx E T50 [] [(0, [0]), (1, [0, 3]), (2, [2])] [] 19 70)
theorem C50_ok : CtxOK Tryd.prog C50 := ctx_ok E_ok E_flds mixed T50_ok
noncomputable def S50 : FSpec := inlineK C50 Tryd.f50
theorem S50_ok : SpecOK Tryd.prog 50 S50 := inlineK_ok C50_ok Tryd.func50 (fun _ _ => LoopsOK.none _)
theorem En50 : Enters Tryd.prog 50 := ⟨_, Tryd.func50, by decide, rfl⟩

/-- ferryman/ferrymanref02.Parse4 -/
noncomputable def T31 : List (FuncId × FSpec) := [(48, S48), (49, S49), (50, S50), (51, S51)]
theorem T31_ok : TabOK Tryd.prog T31 := TabOK.cons En48 S48_ok (TabOK.cons En49 S49_ok (TabOK.cons En50 S50_ok (TabOK.cons En51 S51_ok (TabOK.nil _))))
noncomputable def C31 : Ctx := (ctx E T31 [] [(0, [0, 2]), (1, [0, 2, 5]), (2, [0, 2, 5, 19]), (3, [0, 2, 5]), (4, [0, 2, 5, 30]), (5, [2, 3, 4]), (6, [2, 6]), (7, [2, 6, 7]), (8, [2, 6, 7, 8]), (9, [2, 6, 7, 8, 37]), (10, [2, 6, 7, 8]), (11, [2, 6, 7, 8]), (12, [2, 3, 4]), (1000002, [0, 2, 5]), (1000009, [2, 6, 7, 8])] [] 49 70)
theorem C31_ok : CtxOK Tryd.prog C31 := ctx_ok E_ok E_flds mixed T31_ok
noncomputable def S31 : FSpec := inlineK C31 Tryd.f31
theorem S31_ok : SpecOK Tryd.prog 31 S31 := inlineK_ok C31_ok Tryd.func31 (fun _ _ => LoopsOK.none _)
theorem En31 : Enters Tryd.prog 31 := ⟨_, Tryd.func31, by decide, rfl⟩

/-- ferryman/ferrymanref02.Whole6 -/
noncomputable def T56 : List (FuncId × FSpec) := [(31, S31), (50, S50), (59, S59), (61, S61)]
theorem T56_ok : TabOK Tryd.prog T56 := TabOK.cons En31 S31_ok (TabOK.cons En50 S50_ok (TabOK.cons En59 S59_ok (TabOK.cons En61 S61_ok (TabOK.nil _))))
noncomputable def C56 : Ctx := (ctx E T56 [] [(0, [3]), (1, [3, 6]), (2, [4, 5]), (3, [3, 6, 17]), (4, [3, 6]), (5, [3, 6, 27]), (6, [3, 6, 7]), (7, [3, 6]), (8, [3, 6, 62]), (9, [3, 6, 81]), (10, [4, 5]), (11, [3, 6, 10]), (12, [3, 6, 10, 11]), (13, [3, 6, 10, 11, 89]), (14, [3, 6, 10, 11]), (15, [3, 6, 10, 11, 12]), (16, [3, 6, 10, 11, 12, 101]), (17, [3, 6, 10, 11, 12]), (18, [3, 6, 10, 11, 12]), (19, [3, 6, 10, 11, 110]), (20, [3, 6, 10, 11]), (21, [4, 5]), (1000013, [3, 6, 10, 11]), (1000016, [3, 6, 10, 11, 12])] [] 122 70)
theorem C56_ok : CtxOK Tryd.prog C56 := ctx_ok E_ok E_flds mixed T56_ok
noncomputable def S56 : FSpec := inlineK C56 Tryd.f56
theorem S56_ok : SpecOK Tryd.prog 56 S56 := inlineK_ok C56_ok Tryd.func56 (fun _ _ => LoopsOK.none _)
theorem En56 : Enters Tryd.prog 56 := ⟨_, Tryd.func56, by decide, rfl⟩

/-- ferryman/ferrymanref02.Parse6 -/
noncomputable def T46 : List (FuncId × FSpec) := [(55, S55), (56, S56)]
theorem T46_ok : TabOK Tryd.prog T46 := TabOK.cons En55 S55_ok (TabOK.cons En56 S56_ok (TabOK.nil _))
noncomputable def C46 : Ctx := (ctx E T46 [] [(0, [0, 2]), (1, [0, 2, 5, 6]), (2, [0, 2, 5, 6, 19]), (3, [2, 3, 4]), (4, [2, 6, 7, 8]), (5, [2, 6, 7, 29]), (6, [2, 3, 4]), (7, [2, 7, 9]), (8, [2, 7, 9, 10]), (9, [2, 7, 9, 10, 34]), (10, [2, 7, 9, 10]), (11, [2, 7, 9, 10]), (12, [2, 3, 4]), (1000009, [2, 7, 9, 10])] [] 57 70)
theorem C46_ok : CtxOK Tryd.prog C46 := ctx_ok E_ok E_flds mixed T46_ok
noncomputable def S46 : FSpec := inlineK C46 Tryd.f46
theorem S46_ok : SpecOK Tryd.prog 46 S46 := inlineK_ok C46_ok Tryd.func46 (fun _ _ => LoopsOK.none _)
theorem En46 : Enters Tryd.prog 46 := ⟨_, Tryd.func46, by decide, rfl⟩

/-- ferryman/ferrymanref02.length -/
noncomputable def T47 : List (FuncId × FSpec) := [(57, S57)]
theorem T47_ok : TabOK Tryd.prog T47 := TabOK.cons En57 S57_ok (TabOK.nil _)
noncomputable def C47 : Ctx := (ctx E T47 [] [(0, [0, 1]), (1, [0, 1, 5]), (2, [0, 1, 5, 17]), (3, [0, 1, 5]), (4, [4]), (1000002, [0, 1, 5])] [] 21 70)
theorem C47_ok : CtxOK Tryd.prog C47 := ctx_ok E_ok E_flds mixed T47_ok
noncomputable def S47 : FSpec := inlineK C47 Tryd.f47
theorem S47_ok : SpecOK Tryd.prog 47 S47 := inlineK_ok C47_ok Tryd.func47 (fun _ _ => LoopsOK.none _)
theorem En47 : Enters Tryd.prog 47 := ⟨_, Tryd.func47, by decide, rfl⟩

/-- ferryman/ferrymanref02.Prefix6 -/
noncomputable def T30 : List (FuncId × FSpec) := [(34, V34), (45, S45), (46, S46), (47, S47), (48, S48)]
theorem T30_ok : TabOK Tryd.prog T30 := TabOK.cons En34 V34_ok (TabOK.cons En45 S45_ok (TabOK.cons En46 S46_ok (TabOK.cons En47 S47_ok (TabOK.cons En48 S48_ok (TabOK.nil _)))))
noncomputable def C30 : Ctx := (ctx E T30 [] [(0, [0, 2]), (1, [0, 2, 5]), (2, [0, 2, 5, 6, 7, 8]), (3, [0, 2, 5, 6, 7, 22]), (4, [2, 3, 4]), (5, [0, 2, 5, 6, 28]), (6, [2, 3, 4]), (7, [2, 5, 6, 9]), (8, [2, 5, 6, 7, 9]), (9, [2, 5, 6, 7, 9, 44]), (10, [2, 3, 4]), (11, [2, 5, 10]), (12, [2, 5, 10, 56]), (13, [2, 3, 4]), (14, [2, 3, 4])] [] 60 70)
theorem C30_ok : CtxOK Tryd.prog C30 := ctx_ok E_ok E_flds mixed T30_ok
noncomputable def S30 : FSpec := inlineK C30 Tryd.f30
theorem S30_ok : SpecOK Tryd.prog 30 S30 := inlineK_ok C30_ok Tryd.func30 (fun _ _ => LoopsOK.none _)
theorem En30 : Enters Tryd.prog 30 := ⟨_, Tryd.func30, by decide, rfl⟩

/-- ferryman/ferrymanref02.zeros -/
noncomputable def T52 : List (FuncId × FSpec) := []
theorem T52_ok : TabOK Tryd.prog T52 := TabOK.nil _
noncomputable def C52 : Ctx := (ctx E T52 [] [(0, [0, 1]), (1, [0, 1, 5]), (2, [0, 1, 5, 20]), (3, [0, 1, 5]), (4, [4]), (1000002, [0, 1, 5])] [] 24 70)
theorem C52_ok : CtxOK Tryd.prog C52 := ctx_ok E_ok E_flds mixed T52_ok
noncomputable def S52 : FSpec := inlineK C52 Tryd.f52
theorem S52_ok : SpecOK Tryd.prog 52 S52 := inlineK_ok C52_ok Tryd.func52 (fun _ _ => LoopsOK.none _)
theorem En52 : Enters Tryd.prog 52 := ⟨_, Tryd.func52, by decide, rfl⟩

/-- internal/strconv.small -/
noncomputable def T63 : List (FuncId × FSpec) := []
theorem T63_ok : TabOK Tryd.prog T63 := TabOK.nil _
noncomputable def C63 : Ctx := (ctx E T63 [] [(0, [0]), (1, [0, 4]), (2, [2]), (3, [2])] [] 15 70)
theorem C63_ok : CtxOK Tryd.prog C63 := ctx_ok E_ok E_flds mixed T63_ok
noncomputable def S63 : FSpec := inlineK C63 Tryd.f63
theorem S63_ok : SpecOK Tryd.prog 63 S63 := inlineK_ok C63_ok Tryd.func63 (fun _ _ => LoopsOK.none _)
theorem En63 : Enters Tryd.prog 63 := ⟨_, Tryd.func63, by decide, rfl⟩

/-- internal/strconv.log10Pow2 -/
noncomputable def T68 : List (FuncId × FSpec) := []
theorem T68_ok : TabOK Tryd.prog T68 := TabOK.nil _
noncomputable def C68 : Ctx := (ctx E T68 [] [(0, [0]), (1, [2])] [] 6 70)
theorem C68_ok : CtxOK Tryd.prog C68 := ctx_ok E_ok E_flds mixed T68_ok
noncomputable def S68 : FSpec := inlineK C68 Tryd.f68
theorem S68_ok : SpecOK Tryd.prog 68 S68 := inlineK_ok C68_ok Tryd.func68 (fun _ _ => LoopsOK.none _)
theorem En68 : Enters Tryd.prog 68 := ⟨_, Tryd.func68, by decide, rfl⟩

/-- math/bits.Len64 -/
noncomputable def T69 : List (FuncId × FSpec) := []
theorem T69_ok : TabOK Tryd.prog T69 := TabOK.nil _
noncomputable def C69 : Ctx := (ctx E T69 [] [(0, [0, 2]), (1, [0, 2, 4]), (2, [0]), (3, [0, 2]), (4, [0, 2, 8]), (5, [0, 2]), (6, [0, 2]), (7, [0, 2, 14]), (8, [0, 2]), (9, [0, 2]), (10, [2])] [] 25 70)
theorem C69_ok : CtxOK Tryd.prog C69 := ctx_ok E_ok E_flds mixed T69_ok
noncomputable def S69 : FSpec := inlineK C69 Tryd.f69
theorem S69_ok : SpecOK Tryd.prog 69 S69 := inlineK_ok C69_ok Tryd.func69 (fun _ _ => LoopsOK.none _)
theorem En69 : Enters Tryd.prog 69 := ⟨_, Tryd.func69, by decide, rfl⟩

/-- internal/strconv.bool2[int] -/
noncomputable def T70 : List (FuncId × FSpec) := []
theorem T70_ok : TabOK Tryd.prog T70 := TabOK.nil _
noncomputable def C70 : Ctx := (ctx E T70 [] [(0, [0]), (1, [3]), (2, [2]), (3, [2])] [] 4 70)
theorem C70_ok : CtxOK Tryd.prog C70 := ctx_ok E_ok E_flds mixed T70_ok
noncomputable def S70 : FSpec := inlineK C70 Tryd.f70
theorem S70_ok : SpecOK Tryd.prog 70 S70 := inlineK_ok C70_ok Tryd.func70 (fun _ _ => LoopsOK.none _)
theorem En70 : Enters Tryd.prog 70 := ⟨_, Tryd.func70, by decide, rfl⟩

/-- internal/strconv.numDigits -/
noncomputable def T64 : List (FuncId × FSpec) := [(68, S68), (69, S69), (70, S70)]
theorem T64_ok : TabOK Tryd.prog T64 := TabOK.cons En68 S68_ok (TabOK.cons En69 S69_ok (TabOK.cons En70 S70_ok (TabOK.nil _)))
noncomputable def C64 : Ctx := (ctx E T64 [] [(0, [0]), (1, [0, 3]), (2, [2])] [] 15 70)
theorem C64_ok : CtxOK Tryd.prog C64 := ctx_ok E_ok E_flds mixed T64_ok
noncomputable def S64 : FSpec := inlineK C64 Tryd.f64
theorem S64_ok : SpecOK Tryd.prog 64 S64 := inlineK_ok C64_ok Tryd.func64 (fun _ _ => LoopsOK.none _)
theorem En64 : Enters Tryd.prog 64 := ⟨_, Tryd.func64, by decide, rfl⟩

/-- internal/strconv.formatBase10 -/
noncomputable def T65 : List (FuncId × FSpec) := []
theorem T65_ok : TabOK Tryd.prog T65 := TabOK.nil _
noncomputable def C65 : Ctx := (ctx E T65 [] [(0, [0, 1, 4]), (1, [0, 1, 4, 20]), (2, [0, 1, 4, 5]), (3, [0, 1, 4, 5]), (4, [0, 1, 4, 6, 7]), (5, [0, 1, 4, 6, 8, 9]), (6, [0, 1, 4, 8, 9, 10, 11]), (7, [0, 1, 4, 8, 10, 11]), (8, [0, 1, 4, 10, 11]), (9, [0, 1, 4, 10]), (10, [0, 1, 4]), (11, [0, 1, 4]), (12, [0, 4, 12]), (13, [0, 4, 12, 99]), (14, [0, 4, 12, 13]), (15, [0, 4, 12, 13]), (16, [0, 4, 12, 14, 15]), (17, [0, 4, 12, 14]), (18, [0, 4, 12]), (19, [0, 4, 12]), (20, [0, 4, 12, 139]), (21, [0, 4, 12, 16]), (22, [0, 4, 12, 16]), (23, [0, 4, 12]), (24, [0, 4, 12]), (25, [0, 12, 161]), (26, []), (1000001, [0, 1, 4])] [] 167 70)
theorem C65_ok : CtxOK Tryd.prog C65 := ctx_ok E_ok E_flds mixed T65_ok
noncomputable def S65 : FSpec := inlineK C65 Tryd.f65
theorem S65_ok : SpecOK Tryd.prog 65 S65 := inlineK_ok C65_ok Tryd.func65 (fun _ _ => LoopsOK.none _)
theorem En65 : Enters Tryd.prog 65 := ⟨_, Tryd.func65, by decide, rfl⟩

/-- internal/strconv.isPowerOfTwo -/
noncomputable def T71 : List (FuncId × FSpec) := []
theorem T71_ok : TabOK Tryd.prog T71 := TabOK.nil _
noncomputable def C71 : Ctx := (ctx E T71 [] [(0, [0]), (1, [2])] [] 8 70)
theorem C71_ok : CtxOK Tryd.prog C71 := ctx_ok E_ok E_flds mixed T71_ok
noncomputable def S71 : FSpec := inlineK C71 Tryd.f71
theorem S71_ok : SpecOK Tryd.prog 71 S71 := inlineK_ok C71_ok Tryd.func71 (fun _ _ => LoopsOK.none _)
theorem En71 : Enters Tryd.prog 71 := ⟨_, Tryd.func71, by decide, rfl⟩

/-- math/bits.TrailingZeros32 -/
noncomputable def T73 : List (FuncId × FSpec) := []
theorem T73_ok : TabOK Tryd.prog T73 := TabOK.nil _
noncomputable def C73 : Ctx := (ctx E T73 [] [(0, [0]), (1, [0, 4]), (2, [2]), (3, [2])] [] 14 70)
theorem C73_ok : CtxOK Tryd.prog C73 := ctx_ok E_ok E_flds mixed T73_ok
noncomputable def S73 : FSpec := inlineK C73 Tryd.f73
theorem S73_ok : SpecOK Tryd.prog 73 S73 := inlineK_ok C73_ok Tryd.func73 (fun _ _ => LoopsOK.none _)
theorem En73 : Enters Tryd.prog 73 := ⟨_, Tryd.func73, by decide, rfl⟩

/-- math/bits.TrailingZeros64 -/
noncomputable def T74 : List (FuncId × FSpec) := []
theorem T74_ok : TabOK Tryd.prog T74 := TabOK.nil _
noncomputable def C74 : Ctx := (ctx E T74 [] [(0, [0]), (1, [0, 4]), (2, [2]), (3, [2])] [] 14 70)
theorem C74_ok : CtxOK Tryd.prog C74 := ctx_ok E_ok E_flds mixed T74_ok
noncomputable def S74 : FSpec := inlineK C74 Tryd.f74
theorem S74_ok : SpecOK Tryd.prog 74 S74 := inlineK_ok C74_ok Tryd.func74 (fun _ _ => LoopsOK.none _)
theorem En74 : Enters Tryd.prog 74 := ⟨_, Tryd.func74, by decide, rfl⟩

/-- math/bits.TrailingZeros -/
noncomputable def T72 : List (FuncId × FSpec) := [(73, S73), (74, S74)]
theorem T72_ok : TabOK Tryd.prog T72 := TabOK.cons En73 S73_ok (TabOK.cons En74 S74_ok (TabOK.nil _))
noncomputable def C72 : Ctx := (ctx E T72 [] [(0, [0]), (1, [2]), (2, [2])] [] 8 70)
theorem C72_ok : CtxOK Tryd.prog C72 := ctx_ok E_ok E_flds mixed T72_ok
noncomputable def S72 : FSpec := inlineK C72 Tryd.f72
theorem S72_ok : SpecOK Tryd.prog 72 S72 := inlineK_ok C72_ok Tryd.func72 (fun _ _ => LoopsOK.none _)
theorem En72 : Enters Tryd.prog 72 := ⟨_, Tryd.func72, by decide, rfl⟩

/-- internal/strconv.formatBits -/
noncomputable def T66 : List (FuncId × FSpec) := [(71, S71), (72, S72)]
theorem T66_ok : TabOK Tryd.prog T66 := TabOK.cons En71 S71_ok (TabOK.cons En72 S72_ok (TabOK.nil _))
noncomputable def C66 : Ctx := (ctx E T66 [] [(0, [0, 1, 2, 3, 4, 10, 11]), (1, [0, 1, 2, 3, 4, 10, 11, 28]), (2, [0, 1, 2, 3, 4, 10, 11]), (3, [0, 1, 2, 3, 4, 10, 11, 12]), (4, [0, 1, 2, 3, 4, 10, 11, 12, 13]), (5, [0, 1, 2, 3, 4, 10, 11, 12, 13, 30]), (6, [0, 1, 2, 3, 4, 10, 11, 12, 13]), (7, [0, 1, 2, 3, 4, 10, 11, 12, 13, 34]), (8, [0, 1, 2, 3, 4, 10, 11, 12, 13, 14]), (9, [0, 1, 2, 3, 4, 10, 11, 12, 13, 14, 15]), (10, [0, 1, 3, 4, 10, 11, 12, 13, 14, 15, 16]), (11, [0, 1, 3, 4, 10, 11, 12, 13, 14, 15, 16, 46]), (12, [0, 1, 3, 4, 10, 11, 12, 13, 14, 15, 16]), (13, [0, 1, 3, 4, 10, 11, 12, 13, 14, 15, 16]), (14, [0, 1, 3, 4, 10, 11, 12, 13, 14, 15, 16]), (15, [0, 1, 3, 4, 10, 11, 12, 13]), (16, [0, 3, 4, 10, 11, 12, 13]), (17, [0, 1, 3, 4, 10, 11, 12, 13, 17]), (18, [0, 1, 3, 4, 10, 11, 12, 13, 17, 68]), (19, [0, 1, 3, 4, 10, 11, 12, 13, 17]), (20, [0, 1, 3, 4, 10, 11, 12, 13, 17, 18]), (21, [0, 3, 4, 10, 11, 12, 13, 17, 18]), (22, [0, 1, 3, 4, 10, 11, 12, 13, 17]), (23, [0, 1, 3, 4, 10, 11, 12, 13]), (24, [0, 3, 4, 10, 11, 12, 13]), (25, [0, 4, 10, 11, 12, 13, 89]), (26, [0, 4, 10, 11, 12, 13]), (27, [0, 4, 10, 11, 12, 13]), (28, [0, 10, 11, 12, 13, 94]), (29, [10, 11]), (30, [10, 11]), (1000011, [0, 1, 3, 4, 10, 11, 12, 13, 14, 15, 16]), (1000018, [0, 1, 3, 4, 10, 11, 12, 13, 17])] [] 102 70)
theorem C66_ok : CtxOK Tryd.prog C66 := ctx_ok E_ok E_flds mixed T66_ok
noncomputable def S66 : FSpec := inlineK C66 Tryd.f66
theorem S66_ok : SpecOK Tryd.prog 66 S66 := inlineK_ok C66_ok Tryd.func66 (fun _ _ => LoopsOK.none _)
theorem En66 : Enters Tryd.prog 66 := ⟨_, Tryd.func66, by decide, rfl⟩

/-- internal/strconv.FormatInt -/
noncomputable def T58 : List (FuncId × FSpec) := [(63, S63), (64, S64), (65, S65), (66, S66)]
theorem T58_ok : TabOK Tryd.prog T58 := TabOK.cons En63 S63_ok (TabOK.cons En64 S64_ok (TabOK.cons En65 S65_ok (TabOK.cons En66 S66_ok (TabOK.nil _))))
noncomputable def C58 : Ctx := (ctx E T58 [] [(0, [0, 1]), (1, [0, 1, 11]), (2, [0, 17]), (3, [4]), (4, [0, 5]), (5, [0, 5, 6]), (6, [0, 5, 6, 23]), (7, [0, 5, 6]), (8, [0, 5, 6, 7]), (9, [0, 5, 7]), (10, [5, 7, 34]), (11, [5, 7]), (12, [4]), (13, [4]), (14, [9]), (15, [4])] [] 54 70)
theorem C58_ok : CtxOK Tryd.prog C58 := ctx_ok E_ok E_flds mixed T58_ok
noncomputable def S58 : FSpec := inlineK C58 Tryd.f58
theorem S58_ok : SpecOK Tryd.prog 58 S58 := inlineK_ok C58_ok Tryd.func58 (fun _ _ => LoopsOK.none _)
theorem En58 : Enters Tryd.prog 58 := ⟨_, Tryd.func58, by decide, rfl⟩

/-- strconv.FormatInt -/
noncomputable def T53 : List (FuncId × FSpec) := [(58, S58)]
theorem T53_ok : TabOK Tryd.prog T53 := TabOK.cons En58 S58_ok (TabOK.nil _)
noncomputable def C53 : Ctx := (ctx E T53 [] [(0, [0, 1]), (1, [4])] [] 8 70)
theorem C53_ok : CtxOK Tryd.prog C53 := ctx_ok E_ok E_flds mixed T53_ok
noncomputable def S53 : FSpec := inlineK C53 Tryd.f53
theorem S53_ok : SpecOK Tryd.prog 53 S53 := inlineK_ok C53_ok Tryd.func53 (fun _ _ => LoopsOK.none _)
theorem En53 : Enters Tryd.prog 53 := ⟨_, Tryd.func53, by decide, rfl⟩

/-- ferryman/ferrymanref02.Text6 -/
noncomputable def T32 : List (FuncId × FSpec) := [(52, S52), (53, S53)]
theorem T32_ok : TabOK Tryd.prog T32 := TabOK.cons En52 S52_ok (TabOK.cons En53 S53_ok (TabOK.nil _))
noncomputable def C32 : Ctx := (ctx E T32 [] [(0, [1]), (1, [1, 3]), (2, [1, 3, 4]), (3, [1, 3, 4, 11]), (4, [1, 3, 4]), (5, [1, 3, 4]), (6, [3, 5, 6]), (7, [3, 5, 6, 7]), (8, [3, 5, 6, 7, 31]), (9, [3, 5, 6, 7]), (10, [3, 5, 6, 7, 38]), (11, [3, 5, 6, 7]), (12, [3, 5, 6, 8]), (13, [3, 5, 6, 8, 9]), (14, [3, 5, 6, 8, 9, 44]), (15, [3, 5, 6, 8, 9]), (16, [3, 5, 6, 8, 9, 49]), (17, [3, 5, 6, 8, 9]), (18, [3, 5, 6, 8, 9]), (19, [3, 5, 6, 8, 9, 65]), (20, [3, 5, 6, 8, 9]), (21, [3, 5, 6, 8, 9]), (22, [2]), (1000003, [1, 3, 4]), (1000008, [3, 5, 6, 7]), (1000014, [3, 5, 6, 8, 9])] [] 76 70)
theorem C32_ok : CtxOK Tryd.prog C32 := ctx_ok E_ok E_flds mixed T32_ok
noncomputable def S32 : FSpec := inlineK C32 Tryd.f32
theorem S32_ok : SpecOK Tryd.prog 32 S32 := inlineK_ok C32_ok Tryd.func32 (fun _ _ => LoopsOK.none _)
theorem En32 : Enters Tryd.prog 32 := ⟨_, Tryd.func32, by decide, rfl⟩

/-- ferryman/ferrymanlaw08.awake -/
noncomputable def T11 : List (FuncId × FSpec) := [(12, S12), (30, S30), (31, S31), (32, S32)]
theorem T11_ok : TabOK Tryd.prog T11 := TabOK.cons En12 S12_ok (TabOK.cons En30 S30_ok (TabOK.cons En31 S31_ok (TabOK.cons En32 S32_ok (TabOK.nil _))))
noncomputable def C11 : Ctx := (ctx E T11 [] [(0, []), (1, [1]), (2, [1, 4]), (3, [7, 8]), (4, [0])] [] 32 70)
theorem C11_ok : CtxOK Tryd.prog C11 := ctx_ok E_ok E_flds mixed T11_ok
noncomputable def B11 : FSpec := inlineK C11 Tryd.f11
noncomputable def S11 : FSpec := constK (AV.bool true)
theorem B11_ok : SpecOK Tryd.prog 11 B11 := inlineK_ok C11_ok Tryd.func11 (fun _ _ => LoopsOK.none _)
theorem B11_is (k : KE) : B11 [] [] k = k (.ret (AV.bool true)) [] := by kernel_rfl
theorem S11_ok : SpecOK Tryd.prog 11 S11 := constK_ok B11_ok B11_is
theorem En11 : Enters Tryd.prog 11 := ⟨_, Tryd.func11, by decide, rfl⟩

/-- ferryman/addr.Check4 -/
noncomputable def T28 : List (FuncId × FSpec) := [(43, V43)]
theorem T28_ok : TabOK Tryd.prog T28 := TabOK.cons En43 V43_ok (TabOK.nil _)
noncomputable def C28 : Ctx := (ctx E T28 [] [(0, [1]), (1, [18]), (2, [2]), (3, [2])] [1000043] 19 70)
theorem C28_ok : CtxOK Tryd.prog C28 := ctx_ok E_ok E_flds mixed T28_ok
noncomputable def S28 : FSpec := inlineK C28 Tryd.f28
theorem S28_ok : SpecOK Tryd.prog 28 S28 := inlineK_ok C28_ok Tryd.func28 (fun _ _ => LoopsOK.none _)
theorem En28 : Enters Tryd.prog 28 := ⟨_, Tryd.func28, by decide, rfl⟩
noncomputable def R28 (args : List AV) : Res := S28 args [] encK
noncomputable def V28 : FSpec := leafK (.int .i64) R28
theorem V28_ok : SpecOK Tryd.prog 28 V28 := leafK_ok S28_ok (fun _ => rfl)
theorem N28 (x : Nat → Int) (n : Int) : S28 [.agg [.int .u8 (x 0), .int .u8 (x 1), .int .u8 (x 2), .int .u8 (x 3), .int .i64 n]] [] encK =
  aIf (decide (n < 0)) (some (AEnd.ret (AV.int IntKind.i64 22), [])) (aIf (decide (n > 32)) (some (AEnd.ret (AV.int IntKind.i64 22), [])) (aIf (shOK Sh.bool (R43 [AV.fs 1 [AV.int IntKind.u8 (x 0), AV.int IntKind.u8 (x 1), AV.int IntKind.u8 (x 2), AV.int IntKind.u8 (x 3)] SF.any, AV.int IntKind.i64 n])) (aIf (!(sel (R43 [AV.fs 1 [AV.int IntKind.u8 (x 0), AV.int IntKind.u8 (x 1), AV.int IntKind.u8 (x 2), AV.int IntKind.u8 (x 3)] SF.any, AV.int IntKind.i64 n]) []).toBool) (some (AEnd.ret (AV.int IntKind.i64 22), [])) (some (AEnd.ret (AV.int IntKind.i64 0), []))) none)) := by kernel_rfl
theorem R28_is {x : Nat → Int} {n : Int} (hx : b8 x) : R28 [.agg [.int .u8 (x 0), .int .u8 (x 1), .int .u8 (x 2), .int .u8 (x 3), .int .i64 n]] = some (.ret (.int .i64 (chkE 32 [.int .u8 (x 0), .int .u8 (x 1), .int .u8 (x 2), .int .u8 (x 3)] n)), []) := by
  show S28 _ [] encK = _
  have ti : ∀ k n, (AV.int k n).toInt = n := fun _ _ => rfl
  have tb : ∀ b, (AV.bool b).toBool = b := fun _ => rfl
  have si : ∀ k n, sel (some (AEnd.ret (AV.int k n), [])) [] = .int k n := fun _ _ => rfl
  have sb : ∀ b, sel (some (AEnd.ret (AV.bool b), [])) [] = .bool b := fun _ => rfl
  rw [N28]
  unfold chkE
  cases h1 : decide (n < 0)
  · cases h2 : decide (n > 32)
    · have g1 := of_decide_eq_false h1
      have g2 := of_decide_eq_false h2
      have e := R43_is (fl := .any) (b8_4 hx) (show 4 ≤ 1000000 by decide) (i := n) (by omega) (show n ≤ 8 * ((4 : Nat) : Int) by omega)
      simp only [e, shOK_ret, has_bool, sb, tb, aIf_true, aIf_false, cond_false]
      cases lowB [.int .u8 (x 0), .int .u8 (x 1), .int .u8 (x 2), .int .u8 (x 3)] n.toNat <;> rfl
    · rfl
  · rfl

/-- ferryman/addr.same -/
noncomputable def T54 : List (FuncId × FSpec) := []
theorem T54_ok : TabOK Tryd.prog T54 := TabOK.nil _
noncomputable def L54_2 : ATs → AH → KC → Res := fun ts H k => match ts, H with
  | [(0, .fs 1 xs fl), (1, .fs 1 ys gl), (8, .int .i64 n), (9, .int .i64 i)], [] => aIf (intsB .u8 xs && intsB .u8 ys && xs.length == ys.length && decide (xs.length ≤ 1000000) && i == 0 && decide (0 ≤ n) && decide (n ≤ 8 * (xs.length : Int))) (aIf (sameB xs ys n.toNat) (k (.exit 0) [(0, .fs 1 xs fl), (1, .fs 1 ys gl), (8, .int .i64 n), (9, .int .i64 n), (10, .bool false)] []) (k .ret [(6, .bool false)] [])) none
  | _, _ => none
noncomputable def C54 : Ctx := (ctx E T54 [(2, L54_2)] [(0, [0, 1, 2]), (1, [0, 1, 8, 9]), (2, [0, 1, 8, 9, 10]), (3, [0, 1, 7, 8, 9]), (4, [0, 1, 8, 9, 28]), (5, [6]), (6, [0, 1, 8, 9]), (7, [6]), (1000002, [0, 1, 8, 9])] [] 30 200)
theorem C54_ok : CtxOK Tryd.prog C54 := ctx_ok E_ok E_flds mixed T54_ok
theorem C54_l0 : C54.loop (loopId (loopB Tryd.f54 0)) = some L54_2 := by kernel_rfl
theorem L54_2_in : LoopsOK C54 (loopB Tryd.f54 0) := LoopsOK.within 0 (by kernel_rfl) (fun j hj S hS => by
  omega)
theorem M54_2a (xs : List AV) (fl : SF) (ys : List AV) (gl : SF) (n i : Int) (k : KC) : headedK C54 (loopB Tryd.f54 0) [(0, .fs 1 xs fl), (1, .fs 1 ys gl), (8, .int .i64 n), (9, .int .i64 i)] [] k =
  aIf (decide (i < n)) (aIf (decide (0 ≤ IntKind.i64.wrap (i.tdiv 8))) (aIf (decide (IntKind.i64.wrap (i.tdiv 8) < (↑xs.length : Int))) (aIf ((xs.getD (IntKind.i64.wrap (i.tdiv 8)).toNat AV.junk).cells.length == 1) (aIf (([(xs.getD (IntKind.i64.wrap (i.tdiv 8)).toNat AV.junk).cells.getD 0 AV.junk].getD 0 AV.junk).isInt IntKind.u8) (aIf (decide (0 ≤ IntKind.i64.wrap (i.tdiv 8))) (aIf (decide (IntKind.i64.wrap (i.tdiv 8) < (↑ys.length : Int))) (aIf ((ys.getD (IntKind.i64.wrap (i.tdiv 8)).toNat AV.junk).cells.length == 1) (aIf (([(ys.getD (IntKind.i64.wrap (i.tdiv 8)).toNat AV.junk).cells.getD 0 AV.junk].getD 0 AV.junk).isInt IntKind.u8) (aIf (decide (IntKind.i64.wrap (7 - i.tmod 8) < 0)) none (aIf (IntKind.u8.wrap (↑(BitVec.ofInt 8 ((IntKind.u8.wrap (↑(BitVec.ofInt 8 ([(xs.getD (IntKind.i64.wrap (i.tdiv 8)).toNat AV.junk).cells.getD 0 AV.junk].getD 0 AV.junk).toInt ^^^ BitVec.ofInt 8 ([(ys.getD (IntKind.i64.wrap (i.tdiv 8)).toNat AV.junk).cells.getD 0 AV.junk].getD 0 AV.junk).toInt).toNat : Int)).fdiv (2 ^ min (IntKind.i64.wrap (7 - i.tmod 8)).toNat 8)) &&& BitVec.ofInt 8 1).toNat : Int) != 0) (k AExit.ret [(6, AV.bool false)] []) (k AExit.normal [(0, AV.fs 1 xs fl), (1, AV.fs 1 ys gl), (8, AV.int IntKind.i64 n), (9, AV.int IntKind.i64 (IntKind.i64.wrap (i + 1)))] []))) none) none) none) none) none) none) none) none) (k (AExit.exit 0) [(0, AV.fs 1 xs fl), (1, AV.fs 1 ys gl), (8, AV.int IntKind.i64 n), (9, AV.int IntKind.i64 i), (10, AV.bool (decide (i < n)))] []) := by kernel_rfl
theorem L54_2_ok : LoopSum C54 (loopB Tryd.f54 0) L54_2 := LoopSum.of C54_ok L54_2_in (fun ts H => by
  unfold L54_2
  split
  · rename_i xs fl ys gl n i
    rcases Bool.eq_false_or_eq_true (intsB .u8 xs && intsB .u8 ys && xs.length == ys.length && decide (xs.length ≤ 1000000) && i == 0 && decide (0 ≤ n) && decide (n ≤ 8 * (xs.length : Int))) with hp | hp
    · refine .inr ?_
      simp only [aIf_pos hp]
      simp only [Bool.and_eq_true, decide_eq_true_eq, beq_iff_eq] at hp
      obtain ⟨⟨⟨⟨⟨⟨hu, hv⟩, hl⟩, hL⟩, rfl⟩, h0⟩, h1⟩ := hp
      obtain ⟨n, rfl⟩ := Int.eq_ofNat_of_zero_le h0
      have key : ∀ j : Nat, j < n → ∀ k, headedK C54 (loopB Tryd.f54 0) [(0, .fs 1 xs fl), (1, .fs 1 ys gl), (8, .int .i64 (n : Int)), (9, .int .i64 (j : Int))] [] k = aIf (bitV xs j != bitV ys j) (k .ret [(6, .bool false)] []) (k .normal [(0, .fs 1 xs fl), (1, .fs 1 ys gl), (8, .int .i64 (n : Int)), (9, .int .i64 ((j + 1 : Nat) : Int))] []) := by
        intro j hj k
        obtain ⟨x, hx, he⟩ := u8_get hu (j / 8) (by omega)
        obtain ⟨y, hy, hf⟩ := u8_get hv (j / 8) (by omega)
        rw [M54_2a]
        simp only [dlt hj, div8 (show j < 9223372036854775808 by omega), sh7 j, dlt (show j / 8 < xs.length by omega), dlt (show j / 8 < ys.length by omega), show min (7 - j % 8) 8 = 7 - j % 8 by omega, he, hf, xor8 hx hy, bit8 (xor_lt hx hy) (show 7 - j % 8 < 8 by omega), bitXor he hf, i64s (show j + 1 < 9223372036854775808 by omega), Int.toNat_natCast, AV.cells, List.length_cons, List.length_nil, List.getD_cons_zero, Nat.reduceAdd, isInt_self, AV.toInt, beq_self_eq_true, dnn, dnn', aIf_true, aIf_false, shr_eq]
      rw [Int.toNat_natCast]
      exact (iter_scan (N := n) (ts := fun j => [(0, .fs 1 xs fl), (1, .fs 1 ys gl), (8, .int .i64 (n : Int)), (9, .int .i64 (j : Int))]) (H := []) (b := fun j => bitV xs j != bitV ys j) (fun j hj hb k => (key j hj k).trans (aIf_pos hb)) (fun j hj hb k => (key j hj k).trans (aIf_neg hb))
        (fun k => by rw [M54_2a, dltf]; rfl) (by intro h; cases h) (by intro h; cases h) n 0 (by omega)).imp fun m hm k => (hm k).symm
    · exact .inl fun k => by rw [aIf_neg hp]
  · exact .inl fun k => rfl)
theorem C54_loops : ∀ c, Tryd.f54.body = some c → LoopsOK C54 c := LoopsOK.of 1 (by kernel_rfl) (fun j hj S hS => by
  match j, hj with
  | 0, _ => rw [C54_l0] at hS; cases hS; exact L54_2_ok
  | n + 1, hj => omega)
noncomputable def S54 : FSpec := inlineK C54 Tryd.f54
theorem S54_ok : SpecOK Tryd.prog 54 S54 := inlineK_ok C54_ok Tryd.func54 C54_loops
theorem En54 : Enters Tryd.prog 54 := ⟨_, Tryd.func54, by decide, rfl⟩
noncomputable def R54 (args : List AV) : Res := S54 args [] encK
noncomputable def V54 : FSpec := leafK (.bool) R54
theorem V54_ok : SpecOK Tryd.prog 54 V54 := leafK_ok S54_ok (fun _ => rfl)
theorem N54 (xs ys : List AV) (fl gl : SF) (n : Int) : S54 [.fs 1 xs fl, .fs 1 ys gl, .int .i64 n] [] encK =
  aIf (intsB IntKind.u8 xs && intsB IntKind.u8 ys && xs.length == ys.length && decide (xs.length ≤ 1000000) && true && decide (0 ≤ n) && decide (n ≤ 8 * (↑xs.length : Int))) (aIf (Pl.sameB xs ys n.toNat) (some (AEnd.ret (AV.bool true), [])) (some (AEnd.ret (AV.bool false), []))) none := by kernel_rfl
theorem R54_is {xs ys : List AV} {fl gl : SF} {n : Int} (hu : intsB .u8 xs = true) (hv : intsB .u8 ys = true) (hl : xs.length = ys.length) (hL : xs.length ≤ 1000000) (h0 : 0 ≤ n) (h1 : n ≤ 8 * (xs.length : Int)) : R54 [.fs 1 xs fl, .fs 1 ys gl, .int .i64 n] = some (.ret (.bool (sameB xs ys n.toNat)), []) := by
  show S54 _ [] encK = _
  rw [N54, hu, hv, decide_eq_true hL, decide_eq_true h0, decide_eq_true h1, hl]
  simp only [beq_self_eq_true, Bool.and_self, aIf_true]
  cases sameB xs ys n.toNat <;> rfl

/-- ferryman/addr.Has4 -/
noncomputable def T37 : List (FuncId × FSpec) := [(28, V28), (54, V54)]
theorem T37_ok : TabOK Tryd.prog T37 := TabOK.cons En28 V28_ok (TabOK.cons En54 V54_ok (TabOK.nil _))
noncomputable def C37 : Ctx := (ctx E T37 [] [(0, [2, 3]), (1, [2, 3, 6]), (2, [2, 3, 6, 10]), (3, [4, 5]), (4, [4, 5])] [1000054] 18 70)
theorem C37_ok : CtxOK Tryd.prog C37 := ctx_ok E_ok E_flds mixed T37_ok
noncomputable def S37 : FSpec := inlineK C37 Tryd.f37
theorem S37_ok : SpecOK Tryd.prog 37 S37 := inlineK_ok C37_ok Tryd.func37 (fun _ _ => LoopsOK.none _)
theorem En37 : Enters Tryd.prog 37 := ⟨_, Tryd.func37, by decide, rfl⟩
noncomputable def R37 (args : List AV) : Res := S37 args [] encK
noncomputable def V37 : FSpec := leafK (.tup [.bool, .int .i64]) R37
theorem V37_ok : SpecOK Tryd.prog 37 V37 := leafK_ok S37_ok (fun _ => rfl)
theorem N37 (x y : Nat → Int) (n : Int) : S37 [.agg [.int .u8 (x 0), .int .u8 (x 1), .int .u8 (x 2), .int .u8 (x 3), .int .i64 n], .agg [.int .u8 (y 0), .int .u8 (y 1), .int .u8 (y 2), .int .u8 (y 3)]] [] encK =
  aIf (shOK (Sh.int IntKind.i64) (R28 [AV.agg [AV.int IntKind.u8 (x 0), AV.int IntKind.u8 (x 1), AV.int IntKind.u8 (x 2), AV.int IntKind.u8 (x 3), AV.int IntKind.i64 n]])) (aIf ((sel (R28 [AV.agg [AV.int IntKind.u8 (x 0), AV.int IntKind.u8 (x 1), AV.int IntKind.u8 (x 2), AV.int IntKind.u8 (x 3), AV.int IntKind.i64 n]]) []).toInt != 0) (some (AEnd.ret (AV.tup [AV.bool false, AV.int IntKind.i64 (sel (R28 [AV.agg [AV.int IntKind.u8 (x 0), AV.int IntKind.u8 (x 1), AV.int IntKind.u8 (x 2), AV.int IntKind.u8 (x 3), AV.int IntKind.i64 n]]) []).toInt]), [])) (aIf (shOK Sh.bool (R54 [AV.fs 1 [AV.int IntKind.u8 (x 0), AV.int IntKind.u8 (x 1), AV.int IntKind.u8 (x 2), AV.int IntKind.u8 (x 3)] SF.any, AV.fs 1 [AV.int IntKind.u8 (y 0), AV.int IntKind.u8 (y 1), AV.int IntKind.u8 (y 2), AV.int IntKind.u8 (y 3)] SF.any, AV.int IntKind.i64 n])) (some (AEnd.ret (AV.tup [AV.bool (sel (R54 [AV.fs 1 [AV.int IntKind.u8 (x 0), AV.int IntKind.u8 (x 1), AV.int IntKind.u8 (x 2), AV.int IntKind.u8 (x 3)] SF.any, AV.fs 1 [AV.int IntKind.u8 (y 0), AV.int IntKind.u8 (y 1), AV.int IntKind.u8 (y 2), AV.int IntKind.u8 (y 3)] SF.any, AV.int IntKind.i64 n]) []).toBool, AV.int IntKind.i64 0]), [])) none)) none := by kernel_rfl
theorem R37_is {x y : Nat → Int} {n : Int} (hx : b8 x) (hy : b8 y) : R37 [.agg [.int .u8 (x 0), .int .u8 (x 1), .int .u8 (x 2), .int .u8 (x 3), .int .i64 n], .agg [.int .u8 (y 0), .int .u8 (y 1), .int .u8 (y 2), .int .u8 (y 3)]] = some (.ret (.tup [.bool (inB 32 [.int .u8 (x 0), .int .u8 (x 1), .int .u8 (x 2), .int .u8 (x 3)] [.int .u8 (y 0), .int .u8 (y 1), .int .u8 (y 2), .int .u8 (y 3)] n), .int .i64 (chkE 32 [.int .u8 (x 0), .int .u8 (x 1), .int .u8 (x 2), .int .u8 (x 3)] n)]), []) := by
  show S37 _ [] encK = _
  have ti : ∀ k n, (AV.int k n).toInt = n := fun _ _ => rfl
  have tb : ∀ b, (AV.bool b).toBool = b := fun _ => rfl
  have si : ∀ k n, sel (some (AEnd.ret (AV.int k n), [])) [] = .int k n := fun _ _ => rfl
  have sb : ∀ b, sel (some (AEnd.ret (AV.bool b), [])) [] = .bool b := fun _ => rfl
  rw [N37]
  simp only [R28_is hx, shOK_ret, has_int, chkE_in, si, ti, aIf_true]
  unfold inB
  rcases chkE_or 32 [.int .u8 (x 0), .int .u8 (x 1), .int .u8 (x 2), .int .u8 (x 3)] n with ⟨h1, h2, h3, h4⟩ | h1
  · have e := R54_is (fl := .any) (gl := .any) (n := n) (b8_4 hx) (b8_4 hy) rfl (show 4 ≤ 1000000 by decide) h2 (show n ≤ 8 * ((4 : Nat) : Int) by omega)
    rw [h1, e, shOK_ret, has_bool, sb, tb]
    rfl
  · rw [h1]
    rfl

/-- ferryman/embed.Global -/
noncomputable def T15 : List (FuncId × FSpec) := [(37, V37)]
theorem T15_ok : TabOK Tryd.prog T15 := TabOK.cons En37 V37_ok (TabOK.nil _)
noncomputable def C15 : Ctx := (ctx E T15 [] [(0, [1]), (1, [1, 35, 36, 37]), (2, [1, 35, 36, 37, 38]), (3, [1, 4, 35, 36, 37]), (4, [1, 5, 35, 36, 37]), (5, [1, 35, 36, 37, 47]), (6, [2]), (7, [1, 35, 36, 37]), (8, [2]), (1000002, [1, 35, 36, 37])] [] 49 20)
theorem C15_ok : CtxOK Tryd.prog C15 := ctx_ok E_ok E_flds mixed T15_ok
noncomputable def S15 : FSpec := inlineK C15 Tryd.f15
theorem S15_ok : SpecOK Tryd.prog 15 S15 := inlineK_ok C15_ok Tryd.func15 (fun _ _ => LoopsOK.none _)
theorem En15 : Enters Tryd.prog 15 := ⟨_, Tryd.func15, by decide, rfl⟩
noncomputable def R15 (args : List AV) : Res := S15 args [] encK
noncomputable def V15 : FSpec := leafK (.bool) R15
theorem V15_ok : SpecOK Tryd.prog 15 V15 := leafK_ok S15_ok (fun _ => rfl)
theorem N15 (z : Nat → Int) : S15 [.agg [.int .u8 (z 0), .int .u8 (z 1), .int .u8 (z 2), .int .u8 (z 3)]] [] encK =
  aIf (shOK (Sh.tup [Sh.bool, Sh.int IntKind.i64]) (R37 [AV.agg [AV.int IntKind.u8 0, AV.int IntKind.u8 0, AV.int IntKind.u8 0, AV.int IntKind.u8 0, AV.int IntKind.i64 8], AV.agg [AV.int IntKind.u8 (z 0), AV.int IntKind.u8 (z 1), AV.int IntKind.u8 (z 2), AV.int IntKind.u8 (z 3)]])) (aIf (sel (R37 [AV.agg [AV.int IntKind.u8 0, AV.int IntKind.u8 0, AV.int IntKind.u8 0, AV.int IntKind.u8 0, AV.int IntKind.i64 8], AV.agg [AV.int IntKind.u8 (z 0), AV.int IntKind.u8 (z 1), AV.int IntKind.u8 (z 2), AV.int IntKind.u8 (z 3)]]) [0]).toBool (some (AEnd.ret (AV.bool false), [])) (aIf (shOK (Sh.tup [Sh.bool, Sh.int IntKind.i64]) (R37 [AV.agg [AV.int IntKind.u8 10, AV.int IntKind.u8 0, AV.int IntKind.u8 0, AV.int IntKind.u8 0, AV.int IntKind.i64 8], AV.agg [AV.int IntKind.u8 (z 0), AV.int IntKind.u8 (z 1), AV.int IntKind.u8 (z 2), AV.int IntKind.u8 (z 3)]])) (aIf (sel (R37 [AV.agg [AV.int IntKind.u8 10, AV.int IntKind.u8 0, AV.int IntKind.u8 0, AV.int IntKind.u8 0, AV.int IntKind.i64 8], AV.agg [AV.int IntKind.u8 (z 0), AV.int IntKind.u8 (z 1), AV.int IntKind.u8 (z 2), AV.int IntKind.u8 (z 3)]]) [0]).toBool (some (AEnd.ret (AV.bool false), [])) (aIf (shOK (Sh.tup [Sh.bool, Sh.int IntKind.i64]) (R37 [AV.agg [AV.int IntKind.u8 100, AV.int IntKind.u8 64, AV.int IntKind.u8 0, AV.int IntKind.u8 0, AV.int IntKind.i64 10], AV.agg [AV.int IntKind.u8 (z 0), AV.int IntKind.u8 (z 1), AV.int IntKind.u8 (z 2), AV.int IntKind.u8 (z 3)]])) (aIf (sel (R37 [AV.agg [AV.int IntKind.u8 100, AV.int IntKind.u8 64, AV.int IntKind.u8 0, AV.int IntKind.u8 0, AV.int IntKind.i64 10], AV.agg [AV.int IntKind.u8 (z 0), AV.int IntKind.u8 (z 1), AV.int IntKind.u8 (z 2), AV.int IntKind.u8 (z 3)]]) [0]).toBool (some (AEnd.ret (AV.bool false), [])) (aIf (shOK (Sh.tup [Sh.bool, Sh.int IntKind.i64]) (R37 [AV.agg [AV.int IntKind.u8 127, AV.int IntKind.u8 0, AV.int IntKind.u8 0, AV.int IntKind.u8 0, AV.int IntKind.i64 8], AV.agg [AV.int IntKind.u8 (z 0), AV.int IntKind.u8 (z 1), AV.int IntKind.u8 (z 2), AV.int IntKind.u8 (z 3)]])) (aIf (sel (R37 [AV.agg [AV.int IntKind.u8 127, AV.int IntKind.u8 0, AV.int IntKind.u8 0, AV.int IntKind.u8 0, AV.int IntKind.i64 8], AV.agg [AV.int IntKind.u8 (z 0), AV.int IntKind.u8 (z 1), AV.int IntKind.u8 (z 2), AV.int IntKind.u8 (z 3)]]) [0]).toBool (some (AEnd.ret (AV.bool false), [])) (aIf (shOK (Sh.tup [Sh.bool, Sh.int IntKind.i64]) (R37 [AV.agg [AV.int IntKind.u8 169, AV.int IntKind.u8 254, AV.int IntKind.u8 0, AV.int IntKind.u8 0, AV.int IntKind.i64 16], AV.agg [AV.int IntKind.u8 (z 0), AV.int IntKind.u8 (z 1), AV.int IntKind.u8 (z 2), AV.int IntKind.u8 (z 3)]])) (aIf (sel (R37 [AV.agg [AV.int IntKind.u8 169, AV.int IntKind.u8 254, AV.int IntKind.u8 0, AV.int IntKind.u8 0, AV.int IntKind.i64 16], AV.agg [AV.int IntKind.u8 (z 0), AV.int IntKind.u8 (z 1), AV.int IntKind.u8 (z 2), AV.int IntKind.u8 (z 3)]]) [0]).toBool (some (AEnd.ret (AV.bool false), [])) (aIf (shOK (Sh.tup [Sh.bool, Sh.int IntKind.i64]) (R37 [AV.agg [AV.int IntKind.u8 172, AV.int IntKind.u8 16, AV.int IntKind.u8 0, AV.int IntKind.u8 0, AV.int IntKind.i64 12], AV.agg [AV.int IntKind.u8 (z 0), AV.int IntKind.u8 (z 1), AV.int IntKind.u8 (z 2), AV.int IntKind.u8 (z 3)]])) (aIf (sel (R37 [AV.agg [AV.int IntKind.u8 172, AV.int IntKind.u8 16, AV.int IntKind.u8 0, AV.int IntKind.u8 0, AV.int IntKind.i64 12], AV.agg [AV.int IntKind.u8 (z 0), AV.int IntKind.u8 (z 1), AV.int IntKind.u8 (z 2), AV.int IntKind.u8 (z 3)]]) [0]).toBool (some (AEnd.ret (AV.bool false), [])) (aIf (shOK (Sh.tup [Sh.bool, Sh.int IntKind.i64]) (R37 [AV.agg [AV.int IntKind.u8 192, AV.int IntKind.u8 0, AV.int IntKind.u8 0, AV.int IntKind.u8 0, AV.int IntKind.i64 24], AV.agg [AV.int IntKind.u8 (z 0), AV.int IntKind.u8 (z 1), AV.int IntKind.u8 (z 2), AV.int IntKind.u8 (z 3)]])) (aIf (sel (R37 [AV.agg [AV.int IntKind.u8 192, AV.int IntKind.u8 0, AV.int IntKind.u8 0, AV.int IntKind.u8 0, AV.int IntKind.i64 24], AV.agg [AV.int IntKind.u8 (z 0), AV.int IntKind.u8 (z 1), AV.int IntKind.u8 (z 2), AV.int IntKind.u8 (z 3)]]) [0]).toBool (some (AEnd.ret (AV.bool false), [])) (aIf (shOK (Sh.tup [Sh.bool, Sh.int IntKind.i64]) (R37 [AV.agg [AV.int IntKind.u8 192, AV.int IntKind.u8 0, AV.int IntKind.u8 2, AV.int IntKind.u8 0, AV.int IntKind.i64 24], AV.agg [AV.int IntKind.u8 (z 0), AV.int IntKind.u8 (z 1), AV.int IntKind.u8 (z 2), AV.int IntKind.u8 (z 3)]])) (aIf (sel (R37 [AV.agg [AV.int IntKind.u8 192, AV.int IntKind.u8 0, AV.int IntKind.u8 2, AV.int IntKind.u8 0, AV.int IntKind.i64 24], AV.agg [AV.int IntKind.u8 (z 0), AV.int IntKind.u8 (z 1), AV.int IntKind.u8 (z 2), AV.int IntKind.u8 (z 3)]]) [0]).toBool (some (AEnd.ret (AV.bool false), [])) (aIf (shOK (Sh.tup [Sh.bool, Sh.int IntKind.i64]) (R37 [AV.agg [AV.int IntKind.u8 192, AV.int IntKind.u8 168, AV.int IntKind.u8 0, AV.int IntKind.u8 0, AV.int IntKind.i64 16], AV.agg [AV.int IntKind.u8 (z 0), AV.int IntKind.u8 (z 1), AV.int IntKind.u8 (z 2), AV.int IntKind.u8 (z 3)]])) (aIf (sel (R37 [AV.agg [AV.int IntKind.u8 192, AV.int IntKind.u8 168, AV.int IntKind.u8 0, AV.int IntKind.u8 0, AV.int IntKind.i64 16], AV.agg [AV.int IntKind.u8 (z 0), AV.int IntKind.u8 (z 1), AV.int IntKind.u8 (z 2), AV.int IntKind.u8 (z 3)]]) [0]).toBool (some (AEnd.ret (AV.bool false), [])) (aIf (shOK (Sh.tup [Sh.bool, Sh.int IntKind.i64]) (R37 [AV.agg [AV.int IntKind.u8 198, AV.int IntKind.u8 18, AV.int IntKind.u8 0, AV.int IntKind.u8 0, AV.int IntKind.i64 15], AV.agg [AV.int IntKind.u8 (z 0), AV.int IntKind.u8 (z 1), AV.int IntKind.u8 (z 2), AV.int IntKind.u8 (z 3)]])) (aIf (sel (R37 [AV.agg [AV.int IntKind.u8 198, AV.int IntKind.u8 18, AV.int IntKind.u8 0, AV.int IntKind.u8 0, AV.int IntKind.i64 15], AV.agg [AV.int IntKind.u8 (z 0), AV.int IntKind.u8 (z 1), AV.int IntKind.u8 (z 2), AV.int IntKind.u8 (z 3)]]) [0]).toBool (some (AEnd.ret (AV.bool false), [])) (aIf (shOK (Sh.tup [Sh.bool, Sh.int IntKind.i64]) (R37 [AV.agg [AV.int IntKind.u8 198, AV.int IntKind.u8 51, AV.int IntKind.u8 100, AV.int IntKind.u8 0, AV.int IntKind.i64 24], AV.agg [AV.int IntKind.u8 (z 0), AV.int IntKind.u8 (z 1), AV.int IntKind.u8 (z 2), AV.int IntKind.u8 (z 3)]])) (aIf (sel (R37 [AV.agg [AV.int IntKind.u8 198, AV.int IntKind.u8 51, AV.int IntKind.u8 100, AV.int IntKind.u8 0, AV.int IntKind.i64 24], AV.agg [AV.int IntKind.u8 (z 0), AV.int IntKind.u8 (z 1), AV.int IntKind.u8 (z 2), AV.int IntKind.u8 (z 3)]]) [0]).toBool (some (AEnd.ret (AV.bool false), [])) (aIf (shOK (Sh.tup [Sh.bool, Sh.int IntKind.i64]) (R37 [AV.agg [AV.int IntKind.u8 203, AV.int IntKind.u8 0, AV.int IntKind.u8 113, AV.int IntKind.u8 0, AV.int IntKind.i64 24], AV.agg [AV.int IntKind.u8 (z 0), AV.int IntKind.u8 (z 1), AV.int IntKind.u8 (z 2), AV.int IntKind.u8 (z 3)]])) (aIf (sel (R37 [AV.agg [AV.int IntKind.u8 203, AV.int IntKind.u8 0, AV.int IntKind.u8 113, AV.int IntKind.u8 0, AV.int IntKind.i64 24], AV.agg [AV.int IntKind.u8 (z 0), AV.int IntKind.u8 (z 1), AV.int IntKind.u8 (z 2), AV.int IntKind.u8 (z 3)]]) [0]).toBool (some (AEnd.ret (AV.bool false), [])) (aIf (shOK (Sh.tup [Sh.bool, Sh.int IntKind.i64]) (R37 [AV.agg [AV.int IntKind.u8 224, AV.int IntKind.u8 0, AV.int IntKind.u8 0, AV.int IntKind.u8 0, AV.int IntKind.i64 4], AV.agg [AV.int IntKind.u8 (z 0), AV.int IntKind.u8 (z 1), AV.int IntKind.u8 (z 2), AV.int IntKind.u8 (z 3)]])) (aIf (sel (R37 [AV.agg [AV.int IntKind.u8 224, AV.int IntKind.u8 0, AV.int IntKind.u8 0, AV.int IntKind.u8 0, AV.int IntKind.i64 4], AV.agg [AV.int IntKind.u8 (z 0), AV.int IntKind.u8 (z 1), AV.int IntKind.u8 (z 2), AV.int IntKind.u8 (z 3)]]) [0]).toBool (some (AEnd.ret (AV.bool false), [])) (aIf (shOK (Sh.tup [Sh.bool, Sh.int IntKind.i64]) (R37 [AV.agg [AV.int IntKind.u8 240, AV.int IntKind.u8 0, AV.int IntKind.u8 0, AV.int IntKind.u8 0, AV.int IntKind.i64 4], AV.agg [AV.int IntKind.u8 (z 0), AV.int IntKind.u8 (z 1), AV.int IntKind.u8 (z 2), AV.int IntKind.u8 (z 3)]])) (aIf (sel (R37 [AV.agg [AV.int IntKind.u8 240, AV.int IntKind.u8 0, AV.int IntKind.u8 0, AV.int IntKind.u8 0, AV.int IntKind.i64 4], AV.agg [AV.int IntKind.u8 (z 0), AV.int IntKind.u8 (z 1), AV.int IntKind.u8 (z 2), AV.int IntKind.u8 (z 3)]]) [0]).toBool (some (AEnd.ret (AV.bool false), [])) (some (AEnd.ret (AV.bool true), []))) none)) none)) none)) none)) none)) none)) none)) none)) none)) none)) none)) none)) none)) none := by kernel_rfl
theorem R15_ok {z : Nat → Int} (hz : b8 z) : shOK .bool (R15 [.agg [.int .u8 (z 0), .int .u8 (z 1), .int .u8 (z 2), .int .u8 (z 3)]]) = true := by
  have si : ∀ k n, sel (some (AEnd.ret (AV.int k n), [])) [] = .int k n := fun _ _ => rfl
  have s0 : ∀ x y : AV, sel (some (AEnd.ret (AV.tup [x, y]), [])) [0] = x := fun _ _ => rfl
  have s1 : ∀ x y : AV, sel (some (AEnd.ret (AV.tup [x, y]), [])) [1] = y := fun _ _ => rfl
  have tb : ∀ b, (AV.bool b).toBool = b := fun _ => rfl
  show shOK _ (S15 _ [] encK) = true
  rw [N15]
  have e : ∀ (a b c d n : Int) (h : (0 ≤ a ∧ a ≤ 255) ∧ (0 ≤ b ∧ b ≤ 255) ∧ (0 ≤ c ∧ c ≤ 255) ∧ (0 ≤ d ∧ d ≤ 255)), ∃ u v, R37 [.agg [.int .u8 a, .int .u8 b, .int .u8 c, .int .u8 d, .int .i64 n], .agg [.int .u8 (z 0), .int .u8 (z 1), .int .u8 (z 2), .int .u8 (z 3)]] = some (.ret (.tup [.bool u, .int .i64 v]), []) ∧ inK .i64 v = true := by
    intro a b c d n h
    have this : R37 [.agg [.int .u8 a, .int .u8 b, .int .u8 c, .int .u8 d, .int .i64 n], .agg [.int .u8 (z 0), .int .u8 (z 1), .int .u8 (z 2), .int .u8 (z 3)]] = some (.ret (.tup [.bool (inB 32 [.int .u8 a, .int .u8 b, .int .u8 c, .int .u8 d] [.int .u8 (z 0), .int .u8 (z 1), .int .u8 (z 2), .int .u8 (z 3)] n), .int .i64 (chkE 32 [.int .u8 a, .int .u8 b, .int .u8 c, .int .u8 d] n)]), []) := R37_is (x := fun k => [a, b, c, d].getD k 0) (y := z) (n := n) (b8_lit h) hz
    exact ⟨_, _, this, chkE_in _ _ _⟩
  obtain ⟨u0, v0, e0, k0⟩ := e 0 0 0 0 8 (by decide)
  obtain ⟨u1, v1, e1, k1⟩ := e 10 0 0 0 8 (by decide)
  obtain ⟨u2, v2, e2, k2⟩ := e 100 64 0 0 10 (by decide)
  obtain ⟨u3, v3, e3, k3⟩ := e 127 0 0 0 8 (by decide)
  obtain ⟨u4, v4, e4, k4⟩ := e 169 254 0 0 16 (by decide)
  obtain ⟨u5, v5, e5, k5⟩ := e 172 16 0 0 12 (by decide)
  obtain ⟨u6, v6, e6, k6⟩ := e 192 0 0 0 24 (by decide)
  obtain ⟨u7, v7, e7, k7⟩ := e 192 0 2 0 24 (by decide)
  obtain ⟨u8, v8, e8, k8⟩ := e 192 168 0 0 16 (by decide)
  obtain ⟨u9, v9, e9, k9⟩ := e 198 18 0 0 15 (by decide)
  obtain ⟨u10, v10, e10, k10⟩ := e 198 51 100 0 24 (by decide)
  obtain ⟨u11, v11, e11, k11⟩ := e 203 0 113 0 24 (by decide)
  obtain ⟨u12, v12, e12, k12⟩ := e 224 0 0 0 4 (by decide)
  obtain ⟨u13, v13, e13, k13⟩ := e 240 0 0 0 4 (by decide)
  simp only [e0, k0, e1, k1, e2, k2, e3, k3, e4, k4, e5, k5, e6, k6, e7, k7, e8, k8, e9, k9, e10, k10, e11, k11, e12, k12, e13, k13, s0, tb, shOK_aIf, shOK_ret, has_tup, hasL_cons, hasL_nil, has_bool, has_int, List.getD_cons_zero, List.getD_cons_succ, List.length_cons, List.length_nil, beq_self_eq_true, Bool.and_self, cond_true]
  simp

/-- ferryman/ferrymanref02.Low4 -/
noncomputable def T44 : List (FuncId × FSpec) := []
theorem T44_ok : TabOK Tryd.prog T44 := TabOK.nil _
noncomputable def L44_2 : ATs → AH → KC → Res := fun ts H k => match ts, H with
  | [(2, .ptr 0 0 0), (5, .int .i64 i)], [.cells 0 xs] => aIf (intsB .u8 xs && xs.length == 4 && decide (0 ≤ i) && decide (i ≤ 32)) (aIf (lowB xs i.toNat) (k (.exit 0) [(2, .ptr 0 0 0), (5, .int .i64 32), (8, .bool false)] [.cells 0 xs]) (k .ret [(4, .bool false)] [.cells 0 xs])) none
  | _, _ => none
noncomputable def C44 : Ctx := (ctx E T44 [(2, L44_2)] [(0, [1, 2]), (1, [2, 5]), (2, [2, 5, 8]), (3, [2, 5]), (4, [2, 5, 20]), (5, [4]), (6, [4]), (1000002, [2, 5])] [] 21 70)
theorem C44_ok : CtxOK Tryd.prog C44 := ctx_ok E_ok E_flds mixed T44_ok
theorem C44_l0 : C44.loop (loopId (loopB Tryd.f44 0)) = some L44_2 := by kernel_rfl
theorem L44_2_in : LoopsOK C44 (loopB Tryd.f44 0) := LoopsOK.within 0 (by kernel_rfl) (fun j hj S hS => by
  omega)
theorem M44_2a (i : Int) (xs : List AV) (k : KC) : headedK C44 (loopB Tryd.f44 0) [(2, .ptr 0 0 0), (5, .int .i64 i)] [.cells 0 xs] k =
  aIf (decide (i < 32)) (aIf (decide (0 ≤ IntKind.i64.wrap (i.tdiv 8))) (aIf (decide (IntKind.i64.wrap (i.tdiv 8) < 4)) (aIf (decide (0 + (IntKind.i64.wrap (i.tdiv 8)).toNat * 1 + 1 ≤ xs.length)) (aIf ((xs.getD (0 + (IntKind.i64.wrap (i.tdiv 8)).toNat * 1) AV.junk).isInt IntKind.u8) (aIf (decide (IntKind.i64.wrap (7 - i.tmod 8) < 0)) none (aIf (IntKind.u8.wrap (↑(BitVec.ofInt 8 ((xs.getD (0 + (IntKind.i64.wrap (i.tdiv 8)).toNat * 1) AV.junk).toInt.fdiv (2 ^ min (IntKind.i64.wrap (7 - i.tmod 8)).toNat 8)) &&& BitVec.ofInt 8 1).toNat : Int) == 1) (k AExit.ret [(4, AV.bool false)] [AO.cells 0 xs]) (k AExit.normal [(2, AV.ptr 0 0 0), (5, AV.int IntKind.i64 (IntKind.i64.wrap (i + 1)))] [AO.cells 0 xs]))) none) none) none) none) (k (AExit.exit 0) [(2, AV.ptr 0 0 0), (5, AV.int IntKind.i64 i), (8, AV.bool (decide (i < 32)))] [AO.cells 0 xs]) := by kernel_rfl
theorem L44_2_ok : LoopSum C44 (loopB Tryd.f44 0) L44_2 := LoopSum.of C44_ok L44_2_in (fun ts H => by
  unfold L44_2
  split
  · rename_i i xs
    rcases Bool.eq_false_or_eq_true (intsB .u8 xs && xs.length == 4 && decide (0 ≤ i) && decide (i ≤ 32)) with hp | hp
    · refine .inr ?_
      simp only [aIf_pos hp]
      simp only [Bool.and_eq_true, decide_eq_true_eq, beq_iff_eq] at hp
      obtain ⟨⟨⟨hu, hL⟩, h0⟩, h1⟩ := hp
      obtain ⟨i, rfl⟩ := Int.eq_ofNat_of_zero_le h0
      have key : ∀ j : Nat, j < 32 → ∀ k, headedK C44 (loopB Tryd.f44 0) [(2, .ptr 0 0 0), (5, .int .i64 (j : Int))] [.cells 0 xs] k = aIf (bitV xs j == 1) (k .ret [(4, .bool false)] [.cells 0 xs]) (k .normal [(2, .ptr 0 0 0), (5, .int .i64 ((j + 1 : Nat) : Int))] [.cells 0 xs]) := by
        intro j hj k
        obtain ⟨x, hx, he⟩ := u8_get hu (j / 8) (by omega)
        rw [M44_2a]
        simp only [decide_eq_true (show (j : Int) < 32 by omega), div8 (show j < 9223372036854775808 by omega), sh7 j, decide_eq_true (show ((j / 8 : Nat) : Int) < 4 by omega), decide_eq_true (show j / 8 + 1 ≤ xs.length by omega), show min (7 - j % 8) 8 = 7 - j % 8 by omega, he, bit8 hx (show 7 - j % 8 < 8 by omega), bitEq he, i64s (show j + 1 < 9223372036854775808 by omega), Int.toNat_natCast, Nat.zero_add, Nat.mul_one, isInt_self, AV.toInt, dnn, dnn', aIf_true, aIf_false, shr_eq]
      have hl : lowB xs (i : Int).toNat = noneB (fun j => bitV xs j == 1) (32 - i) i := by rw [Int.toNat_natCast]; unfold lowB; rw [hL]
      rw [hl]
      exact (iter_scan (N := 32) (ts := fun j => [(2, .ptr 0 0 0), (5, .int .i64 (j : Int))]) (H := [.cells 0 xs]) (b := fun j => bitV xs j == 1) (fun j hj hb k => (key j hj k).trans (aIf_pos hb)) (fun j hj hb k => (key j hj k).trans (aIf_neg hb))
        (fun k => by rw [M44_2a]; rfl) (by intro h; cases h) (by intro h; cases h) (32 - i) i (by omega)).imp fun m hm k => (hm k).symm
    · exact .inl fun k => by rw [aIf_neg hp]
  · exact .inl fun k => rfl)
theorem C44_loops : ∀ c, Tryd.f44.body = some c → LoopsOK C44 c := LoopsOK.of 1 (by kernel_rfl) (fun j hj S hS => by
  match j, hj with
  | 0, _ => rw [C44_l0] at hS; cases hS; exact L44_2_ok
  | n + 1, hj => omega)
noncomputable def S44 : FSpec := inlineK C44 Tryd.f44
theorem S44_ok : SpecOK Tryd.prog 44 S44 := inlineK_ok C44_ok Tryd.func44 C44_loops
theorem En44 : Enters Tryd.prog 44 := ⟨_, Tryd.func44, by decide, rfl⟩
noncomputable def R44 (args : List AV) : Res := S44 args [] encK
noncomputable def V44 : FSpec := leafK (.bool) R44
theorem V44_ok : SpecOK Tryd.prog 44 V44 := leafK_ok S44_ok (fun _ => rfl)
theorem N44 (x : Nat → Int) (i : Int) : S44 [.agg [.int .u8 (x 0), .int .u8 (x 1), .int .u8 (x 2), .int .u8 (x 3)], .int .i64 i] [] encK =
  aIf (true && (decide (0 ≤ x 0) && decide (x 0 ≤ 255)) && (true && (decide (0 ≤ x 1) && decide (x 1 ≤ 255)) && (true && (decide (0 ≤ x 2) && decide (x 2 ≤ 255)) && (true && (decide (0 ≤ x 3) && decide (x 3 ≤ 255)) && true))) && true && decide (0 ≤ i) && decide (i ≤ 32)) (aIf (Pl.lowB [AV.int IntKind.u8 (x 0), AV.int IntKind.u8 (x 1), AV.int IntKind.u8 (x 2), AV.int IntKind.u8 (x 3)] i.toNat) (some (AEnd.ret (AV.bool true), [])) (some (AEnd.ret (AV.bool false), []))) none := by kernel_rfl
theorem R44_is {x : Nat → Int} {i : Int} (hu : intsB .u8 [.int .u8 (x 0), .int .u8 (x 1), .int .u8 (x 2), .int .u8 (x 3)] = true) (h0 : 0 ≤ i) (h1 : i ≤ 32) : R44 [.agg [.int .u8 (x 0), .int .u8 (x 1), .int .u8 (x 2), .int .u8 (x 3)], .int .i64 i] = some (.ret (.bool (lowB [.int .u8 (x 0), .int .u8 (x 1), .int .u8 (x 2), .int .u8 (x 3)] i.toNat)), []) := by
  show S44 _ [] encK = _
  rw [N44]
  refine (aIf_pos ?_).trans ?_
  · have : (intsB .u8 [.int .u8 (x 0), .int .u8 (x 1), .int .u8 (x 2), .int .u8 (x 3)] && ([.int .u8 (x 0), .int .u8 (x 1), .int .u8 (x 2), .int .u8 (x 3)] : List AV).length == 4 && decide (0 ≤ i) && decide (i ≤ 32)) = true := by rw [hu, decide_eq_true h0, decide_eq_true h1]; rfl
    exact this
  · cases lowB [.int .u8 (x 0), .int .u8 (x 1), .int .u8 (x 2), .int .u8 (x 3)] i.toNat <;> rfl

/-- ferryman/ferrymanref02.Check4 -/
noncomputable def T29 : List (FuncId × FSpec) := [(44, V44)]
theorem T29_ok : TabOK Tryd.prog T29 := TabOK.cons En44 V44_ok (TabOK.nil _)
noncomputable def C29 : Ctx := (ctx E T29 [] [(0, [1]), (1, [18]), (2, [2]), (3, [2])] [] 19 70)
theorem C29_ok : CtxOK Tryd.prog C29 := ctx_ok E_ok E_flds mixed T29_ok
noncomputable def S29 : FSpec := inlineK C29 Tryd.f29
theorem S29_ok : SpecOK Tryd.prog 29 S29 := inlineK_ok C29_ok Tryd.func29 (fun _ _ => LoopsOK.none _)
theorem En29 : Enters Tryd.prog 29 := ⟨_, Tryd.func29, by decide, rfl⟩
noncomputable def R29 (args : List AV) : Res := S29 args [] encK
noncomputable def V29 : FSpec := leafK (.int .i64) R29
theorem V29_ok : SpecOK Tryd.prog 29 V29 := leafK_ok S29_ok (fun _ => rfl)
theorem N29 (x : Nat → Int) (n : Int) : S29 [.agg [.int .u8 (x 0), .int .u8 (x 1), .int .u8 (x 2), .int .u8 (x 3), .int .i64 n]] [] encK =
  aIf (decide (n < 0)) (some (AEnd.ret (AV.int IntKind.i64 22), [])) (aIf (decide (n > 32)) (some (AEnd.ret (AV.int IntKind.i64 22), [])) (aIf (shOK Sh.bool (R44 [AV.agg [AV.int IntKind.u8 (x 0), AV.int IntKind.u8 (x 1), AV.int IntKind.u8 (x 2), AV.int IntKind.u8 (x 3)], AV.int IntKind.i64 n])) (aIf (!(sel (R44 [AV.agg [AV.int IntKind.u8 (x 0), AV.int IntKind.u8 (x 1), AV.int IntKind.u8 (x 2), AV.int IntKind.u8 (x 3)], AV.int IntKind.i64 n]) []).toBool) (some (AEnd.ret (AV.int IntKind.i64 22), [])) (some (AEnd.ret (AV.int IntKind.i64 0), []))) none)) := by kernel_rfl
theorem R29_is {x : Nat → Int} {n : Int} (hx : b8 x) : R29 [.agg [.int .u8 (x 0), .int .u8 (x 1), .int .u8 (x 2), .int .u8 (x 3), .int .i64 n]] = some (.ret (.int .i64 (chkE 32 [.int .u8 (x 0), .int .u8 (x 1), .int .u8 (x 2), .int .u8 (x 3)] n)), []) := by
  show S29 _ [] encK = _
  have ti : ∀ k n, (AV.int k n).toInt = n := fun _ _ => rfl
  have tb : ∀ b, (AV.bool b).toBool = b := fun _ => rfl
  have si : ∀ k n, sel (some (AEnd.ret (AV.int k n), [])) [] = .int k n := fun _ _ => rfl
  have sb : ∀ b, sel (some (AEnd.ret (AV.bool b), [])) [] = .bool b := fun _ => rfl
  rw [N29]
  unfold chkE
  cases h1 : decide (n < 0)
  · cases h2 : decide (n > 32)
    · have g1 := of_decide_eq_false h1
      have g2 := of_decide_eq_false h2
      have e := R44_is (b8_4 hx) (i := n) (by omega) (by omega)
      simp only [e, shOK_ret, has_bool, sb, tb, aIf_true, aIf_false, cond_false]
      cases lowB [.int .u8 (x 0), .int .u8 (x 1), .int .u8 (x 2), .int .u8 (x 3)] n.toNat <;> rfl
    · rfl
  · rfl

/-- ferryman/ferrymanref02.Cut4 -/
noncomputable def T36 : List (FuncId × FSpec) := []
theorem T36_ok : TabOK Tryd.prog T36 := TabOK.nil _
noncomputable def L36_4 : ATs → AH → KC → Res := fun ts H k => match ts, H with
  | [(1, .int .i64 n), (2, .ptr 0 0 0), (4, .ptr 1 0 0), (6, .int .i64 i)], [.cells 0 xs, .cells 0 zs] => aIf (intsB .u8 xs && xs.length == 4 && decide (0 ≤ i) && decide (i ≤ 32)) (k (.exit 0) [(1, .int .i64 n), (2, .ptr 0 0 0), (4, .ptr 1 0 0), (6, .int .i64 32), (16, .bool false)] [.cells 0 [.int .u8 (byteAt (cutX xs i.toNat) 0), .int .u8 (byteAt (cutX xs i.toNat) 1), .int .u8 (byteAt (cutX xs i.toNat) 2), .int .u8 (byteAt (cutX xs i.toNat) 3)], .cells 0 zs]) none
  | _, _ => none
noncomputable def C36 : Ctx := (ctx E T36 [(4, L36_4)] [(0, [1, 2, 4]), (1, [1, 2, 4, 12]), (2, [4, 5]), (3, [1, 2, 4, 6]), (4, [1, 2, 4, 6, 16]), (5, [1, 2, 4, 6]), (6, [1, 2, 4, 6]), (7, [4, 5]), (1000004, [1, 2, 4, 6])] [] 34 70)
theorem C36_ok : CtxOK Tryd.prog C36 := ctx_ok E_ok E_flds mixed T36_ok
theorem C36_l0 : C36.loop (loopId (loopB Tryd.f36 0)) = some L36_4 := by kernel_rfl
theorem L36_4_in : LoopsOK C36 (loopB Tryd.f36 0) := LoopsOK.within 0 (by kernel_rfl) (fun j hj S hS => by
  omega)
theorem M36_4a (n i : Int) (xs zs : List AV) (k : KC) : headedK C36 (loopB Tryd.f36 0) [(1, .int .i64 n), (2, .ptr 0 0 0), (4, .ptr 1 0 0), (6, .int .i64 i)] [.cells 0 xs, .cells 0 zs] k =
  aIf (decide (i < 32)) (aIf (decide (0 ≤ IntKind.i64.wrap (i.tdiv 8))) (aIf (decide (IntKind.i64.wrap (i.tdiv 8) < 4)) (aIf (decide (0 + (IntKind.i64.wrap (i.tdiv 8)).toNat * 1 + 1 ≤ xs.length)) (aIf ((xs.getD (0 + (IntKind.i64.wrap (i.tdiv 8)).toNat * 1) AV.junk).isInt IntKind.u8) (aIf (decide (IntKind.i64.wrap (7 - i.tmod 8) < 0)) none (aIf (decide (0 ≤ IntKind.i64.wrap (i.tdiv 8))) (aIf (decide (IntKind.i64.wrap (i.tdiv 8) < 4)) (aIf (decide (0 + (IntKind.i64.wrap (i.tdiv 8)).toNat * 1 + 1 ≤ xs.length)) (k AExit.normal [(1, AV.int IntKind.i64 n), (2, AV.ptr 0 0 0), (4, AV.ptr 1 0 0), (6, AV.int IntKind.i64 (IntKind.i64.wrap (i + 1)))] [AO.cells 0 (xs.set (0 + (IntKind.i64.wrap (i.tdiv 8)).toNat * 1) (AV.int IntKind.u8 (IntKind.u8.wrap (↑(BitVec.ofInt 8 (xs.getD (0 + (IntKind.i64.wrap (i.tdiv 8)).toNat * 1) AV.junk).toInt &&& ~~~BitVec.ofInt 8 (IntKind.u8.wrap (1 * 2 ^ min (IntKind.i64.wrap (7 - i.tmod 8)).toNat 8))).toNat : Int)))), AO.cells 0 zs]) none) none) none)) none) none) none) none) (k (AExit.exit 0) [(1, AV.int IntKind.i64 n), (2, AV.ptr 0 0 0), (4, AV.ptr 1 0 0), (6, AV.int IntKind.i64 i), (16, AV.bool (decide (i < 32)))] [AO.cells 0 xs, AO.cells 0 zs]) := by kernel_rfl
theorem L36_4_ok : LoopSum C36 (loopB Tryd.f36 0) L36_4 := LoopSum.of C36_ok L36_4_in (fun ts H => by
  unfold L36_4
  split
  · rename_i n i xs zs
    rcases Bool.eq_false_or_eq_true (intsB .u8 xs && xs.length == 4 && decide (0 ≤ i) && decide (i ≤ 32)) with hp | hp
    · refine .inr ?_
      simp only [aIf_pos hp]
      simp only [Bool.and_eq_true, decide_eq_true_eq, beq_iff_eq] at hp
      obtain ⟨⟨⟨hu, hL⟩, h0⟩, h1⟩ := hp
      obtain ⟨i, rfl⟩ := Int.eq_ofNat_of_zero_le h0
      have key : ∀ (j : Nat) (ys : List AV), j < 32 → (intsB .u8 ys = true ∧ ys.length = 4) → (intsB .u8 (setV ys j 0) = true ∧ (setV ys j 0).length = 4) ∧ ∀ k, headedK C36 (loopB Tryd.f36 0) [(1, .int .i64 n), (2, .ptr 0 0 0), (4, .ptr 1 0 0), (6, .int .i64 (j : Int))] [.cells 0 ys, .cells 0 zs] k = k .normal [(1, .int .i64 n), (2, .ptr 0 0 0), (4, .ptr 1 0 0), (6, .int .i64 ((j + 1 : Nat) : Int))] [.cells 0 (setV ys j 0), .cells 0 zs] := by
        intro j ys hj hys
        obtain ⟨hu, hL⟩ := hys
        refine ⟨⟨setV_u8 hu (.inl rfl), by rw [setV_length, hL]⟩, fun k => ?_⟩
        obtain ⟨x, hx, he⟩ := u8_get hu (j / 8) (by omega)
        rw [M36_4a]
        simp only [decide_eq_true (show (j : Int) < 32 by omega), div8 (show j < 9223372036854775808 by omega), sh7 j, decide_eq_true (show ((j / 8 : Nat) : Int) < 4 by omega), decide_eq_true (show j / 8 + 1 ≤ ys.length by omega), show min (7 - j % 8) 8 = 7 - j % 8 by omega, he, clr8 hx (show 7 - j % 8 < 8 by omega), u8pow (show 7 - j % 8 < 8 by omega), i64s (show j + 1 < 9223372036854775808 by omega), Int.toNat_natCast, Nat.zero_add, Nat.mul_one, Int.one_mul, isInt_self, AV.toInt, dnn, dnn', aIf_true, aIf_false, setV]
      have hl : cutX xs (i : Int).toNat = foldF (fun j ys => setV ys j 0) (32 - i) i xs := by rw [Int.toNat_natCast]; unfold cutX; rw [hL]
      rw [hl]
      exact (iter_fold (N := 32) (ts := fun j _ => [(1, .int .i64 n), (2, .ptr 0 0 0), (4, .ptr 1 0 0), (6, .int .i64 (j : Int))]) (H := fun _ ys => [.cells 0 ys, .cells 0 zs]) (f := fun j ys => setV ys j 0) (I := fun _ ys => intsB .u8 ys = true ∧ ys.length = 4) (te := fun _ => [(1, .int .i64 n), (2, .ptr 0 0 0), (4, .ptr 1 0 0), (6, .int .i64 32), (16, .bool false)]) (He := fun ys => [.cells 0 [.int .u8 (byteAt ys 0), .int .u8 (byteAt ys 1), .int .u8 (byteAt ys 2), .int .u8 (byteAt ys 3)], .cells 0 zs])
        key (fun ys hI k => by rw [M36_4a]; exact congrArg (fun c => k (.exit 0) [(1, .int .i64 n), (2, .ptr 0 0 0), (4, .ptr 1 0 0), (6, .int .i64 32), (16, .bool false)] [.cells 0 c, .cells 0 zs]) (bytes4 hI.1 hI.2)) (by intro h; cases h) (32 - i) i xs (by omega) ⟨hu, hL⟩).imp fun m hm k => (hm k).symm
    · exact .inl fun k => by rw [aIf_neg hp]
  · exact .inl fun k => rfl)
theorem C36_loops : ∀ c, Tryd.f36.body = some c → LoopsOK C36 c := LoopsOK.of 1 (by kernel_rfl) (fun j hj S hS => by
  match j, hj with
  | 0, _ => rw [C36_l0] at hS; cases hS; exact L36_4_ok
  | n + 1, hj => omega)
noncomputable def S36 : FSpec := inlineK C36 Tryd.f36
theorem S36_ok : SpecOK Tryd.prog 36 S36 := inlineK_ok C36_ok Tryd.func36 C36_loops
theorem En36 : Enters Tryd.prog 36 := ⟨_, Tryd.func36, by decide, rfl⟩
noncomputable def R36 (args : List AV) : Res := S36 args [] encK
noncomputable def V36 : FSpec := leafK (.tup [.agg [.int .u8, .int .u8, .int .u8, .int .u8, .int .i64], .int .i64]) R36
theorem V36_ok : SpecOK Tryd.prog 36 V36 := leafK_ok S36_ok (fun _ => rfl)
theorem N36 (x : Nat → Int) (n : Int) : S36 [.agg [.int .u8 (x 0), .int .u8 (x 1), .int .u8 (x 2), .int .u8 (x 3)], .int .i64 n] [] encK =
  aIf (decide (n < 0)) (some (AEnd.ret (AV.tup [AV.agg [AV.int IntKind.u8 0, AV.int IntKind.u8 0, AV.int IntKind.u8 0, AV.int IntKind.u8 0, AV.int IntKind.i64 0], AV.int IntKind.i64 5]), [])) (aIf (decide (n > 32)) (some (AEnd.ret (AV.tup [AV.agg [AV.int IntKind.u8 0, AV.int IntKind.u8 0, AV.int IntKind.u8 0, AV.int IntKind.u8 0, AV.int IntKind.i64 0], AV.int IntKind.i64 5]), [])) (aIf (true && (decide (0 ≤ x 0) && decide (x 0 ≤ 255)) && (true && (decide (0 ≤ x 1) && decide (x 1 ≤ 255)) && (true && (decide (0 ≤ x 2) && decide (x 2 ≤ 255)) && (true && (decide (0 ≤ x 3) && decide (x 3 ≤ 255)) && true))) && true && decide (0 ≤ n) && decide (n ≤ 32)) (some (AEnd.ret (AV.tup [AV.agg [AV.int IntKind.u8 (Pl.byteAt (Pl.cutX [AV.int IntKind.u8 (x 0), AV.int IntKind.u8 (x 1), AV.int IntKind.u8 (x 2), AV.int IntKind.u8 (x 3)] n.toNat) 0), AV.int IntKind.u8 (Pl.byteAt (Pl.cutX [AV.int IntKind.u8 (x 0), AV.int IntKind.u8 (x 1), AV.int IntKind.u8 (x 2), AV.int IntKind.u8 (x 3)] n.toNat) 1), AV.int IntKind.u8 (Pl.byteAt (Pl.cutX [AV.int IntKind.u8 (x 0), AV.int IntKind.u8 (x 1), AV.int IntKind.u8 (x 2), AV.int IntKind.u8 (x 3)] n.toNat) 2), AV.int IntKind.u8 (Pl.byteAt (Pl.cutX [AV.int IntKind.u8 (x 0), AV.int IntKind.u8 (x 1), AV.int IntKind.u8 (x 2), AV.int IntKind.u8 (x 3)] n.toNat) 3), AV.int IntKind.i64 n], AV.int IntKind.i64 0]), [])) none)) := by kernel_rfl
theorem R36_is {x : Nat → Int} {n : Int} (hx : b8 x) (h0 : 0 ≤ n) (h1 : n ≤ 32) : R36 [.agg [.int .u8 (x 0), .int .u8 (x 1), .int .u8 (x 2), .int .u8 (x 3)], .int .i64 n] = some (.ret (.tup [.agg [.int .u8 (byteAt (cutX [.int .u8 (x 0), .int .u8 (x 1), .int .u8 (x 2), .int .u8 (x 3)] n.toNat) 0), .int .u8 (byteAt (cutX [.int .u8 (x 0), .int .u8 (x 1), .int .u8 (x 2), .int .u8 (x 3)] n.toNat) 1), .int .u8 (byteAt (cutX [.int .u8 (x 0), .int .u8 (x 1), .int .u8 (x 2), .int .u8 (x 3)] n.toNat) 2), .int .u8 (byteAt (cutX [.int .u8 (x 0), .int .u8 (x 1), .int .u8 (x 2), .int .u8 (x 3)] n.toNat) 3), .int .i64 n], .int .i64 0]), []) := by
  show S36 _ [] encK = _
  rw [N36, decide_eq_false (show ¬ n < 0 by omega), decide_eq_false (show ¬ n > 32 by omega)]
  refine (aIf_neg rfl).trans ((aIf_neg rfl).trans (aIf_pos ?_))
  have : (intsB .u8 [.int .u8 (x 0), .int .u8 (x 1), .int .u8 (x 2), .int .u8 (x 3)] && ([.int .u8 (x 0), .int .u8 (x 1), .int .u8 (x 2), .int .u8 (x 3)] : List AV).length == 4 && decide (0 ≤ n) && decide (n ≤ 32)) = true := by rw [b8_4 hx, decide_eq_true h0, decide_eq_true h1]; rfl
  exact this

/-- ferryman/ferrymanref02.Has4 -/
noncomputable def T14 : List (FuncId × FSpec) := [(29, V29), (36, V36)]
theorem T14_ok : TabOK Tryd.prog T14 := TabOK.cons En29 V29_ok (TabOK.cons En36 V36_ok (TabOK.nil _))
noncomputable def C14 : Ctx := (ctx E T14 [] [(0, [2, 3]), (1, [2, 3, 10]), (2, [4, 5]), (3, [2, 6]), (4, [4, 5])] [] 21 70)
theorem C14_ok : CtxOK Tryd.prog C14 := ctx_ok E_ok E_flds mixed T14_ok
noncomputable def S14 : FSpec := inlineK C14 Tryd.f14
theorem S14_ok : SpecOK Tryd.prog 14 S14 := inlineK_ok C14_ok Tryd.func14 (fun _ _ => LoopsOK.none _)
theorem En14 : Enters Tryd.prog 14 := ⟨_, Tryd.func14, by decide, rfl⟩
noncomputable def R14 (args : List AV) : Res := S14 args [] encK
noncomputable def V14 : FSpec := leafK (.tup [.bool, .int .i64]) R14
theorem V14_ok : SpecOK Tryd.prog 14 V14 := leafK_ok S14_ok (fun _ => rfl)
theorem N14 (x y : Nat → Int) (n : Int) : S14 [.agg [.int .u8 (x 0), .int .u8 (x 1), .int .u8 (x 2), .int .u8 (x 3), .int .i64 n], .agg [.int .u8 (y 0), .int .u8 (y 1), .int .u8 (y 2), .int .u8 (y 3)]] [] encK =
  aIf (shOK (Sh.int IntKind.i64) (R29 [AV.agg [AV.int IntKind.u8 (x 0), AV.int IntKind.u8 (x 1), AV.int IntKind.u8 (x 2), AV.int IntKind.u8 (x 3), AV.int IntKind.i64 n]])) (aIf ((sel (R29 [AV.agg [AV.int IntKind.u8 (x 0), AV.int IntKind.u8 (x 1), AV.int IntKind.u8 (x 2), AV.int IntKind.u8 (x 3), AV.int IntKind.i64 n]]) []).toInt != 0) (some (AEnd.ret (AV.tup [AV.bool false, AV.int IntKind.i64 22]), [])) (aIf (shOK (Sh.tup [Sh.agg [Sh.int IntKind.u8, Sh.int IntKind.u8, Sh.int IntKind.u8, Sh.int IntKind.u8, Sh.int IntKind.i64], Sh.int IntKind.i64]) (R36 [AV.agg [AV.int IntKind.u8 (y 0), AV.int IntKind.u8 (y 1), AV.int IntKind.u8 (y 2), AV.int IntKind.u8 (y 3)], AV.int IntKind.i64 n])) (some (AEnd.ret (AV.tup [AV.bool ((sel (R36 [AV.agg [AV.int IntKind.u8 (y 0), AV.int IntKind.u8 (y 1), AV.int IntKind.u8 (y 2), AV.int IntKind.u8 (y 3)], AV.int IntKind.i64 n]) [0, 0]).toInt == x 0 && ((sel (R36 [AV.agg [AV.int IntKind.u8 (y 0), AV.int IntKind.u8 (y 1), AV.int IntKind.u8 (y 2), AV.int IntKind.u8 (y 3)], AV.int IntKind.i64 n]) [0, 1]).toInt == x 1 && ((sel (R36 [AV.agg [AV.int IntKind.u8 (y 0), AV.int IntKind.u8 (y 1), AV.int IntKind.u8 (y 2), AV.int IntKind.u8 (y 3)], AV.int IntKind.i64 n]) [0, 2]).toInt == x 2 && ((sel (R36 [AV.agg [AV.int IntKind.u8 (y 0), AV.int IntKind.u8 (y 1), AV.int IntKind.u8 (y 2), AV.int IntKind.u8 (y 3)], AV.int IntKind.i64 n]) [0, 3]).toInt == x 3 && true))) && ((sel (R36 [AV.agg [AV.int IntKind.u8 (y 0), AV.int IntKind.u8 (y 1), AV.int IntKind.u8 (y 2), AV.int IntKind.u8 (y 3)], AV.int IntKind.i64 n]) [0, 4]).toInt == n && true)), AV.int IntKind.i64 0]), [])) none)) none := by kernel_rfl
theorem R14_is {x y : Nat → Int} {n : Int} (hx : b8 x) (hy : b8 y) : R14 [.agg [.int .u8 (x 0), .int .u8 (x 1), .int .u8 (x 2), .int .u8 (x 3), .int .i64 n], .agg [.int .u8 (y 0), .int .u8 (y 1), .int .u8 (y 2), .int .u8 (y 3)]] = some (.ret (.tup [.bool (inB 32 [.int .u8 (x 0), .int .u8 (x 1), .int .u8 (x 2), .int .u8 (x 3)] [.int .u8 (y 0), .int .u8 (y 1), .int .u8 (y 2), .int .u8 (y 3)] n), .int .i64 (chkE 32 [.int .u8 (x 0), .int .u8 (x 1), .int .u8 (x 2), .int .u8 (x 3)] n)]), []) := by
  show S14 _ [] encK = _
  have ti : ∀ k n, (AV.int k n).toInt = n := fun _ _ => rfl
  have tb : ∀ b, (AV.bool b).toBool = b := fun _ => rfl
  have si : ∀ k n, sel (some (AEnd.ret (AV.int k n), [])) [] = .int k n := fun _ _ => rfl
  have sb : ∀ b, sel (some (AEnd.ret (AV.bool b), [])) [] = .bool b := fun _ => rfl
  rw [N14]
  simp only [R29_is hx, shOK_ret, has_int, chkE_in, si, ti, aIf_true]
  rcases chkE_or 32 [.int .u8 (x 0), .int .u8 (x 1), .int .u8 (x 2), .int .u8 (x 3)] n with ⟨h1, h2, h3, h4⟩ | h1
  · have e := R36_is hy h2 h3
    have hcu := cutX_u8 (b8_4 hy) n.toNat
    have hcl : (cutX [.int .u8 (y 0), .int .u8 (y 1), .int .u8 (y 2), .int .u8 (y 3)] n.toNat).length = 4 := cutX_length _ _
    have hin : ∀ k, inK .u8 (byteAt (cutX [.int .u8 (y 0), .int .u8 (y 1), .int .u8 (y 2), .int .u8 (y 3)] n.toNat) k) = true := fun k => byteAt_in hcu k
    have g : ∀ l : List AV, sel (some (AEnd.ret (AV.tup [.agg l, .int .i64 0]), [])) [0] = .agg l := fun _ => rfl
    have hn : inK .i64 n = true := by rw [inK_i64, decide_eq_true (show -9223372036854775808 ≤ n by omega), decide_eq_true (show n ≤ 9223372036854775807 by omega)]; rfl
    rw [h1, e, aIf_neg (b := ((0 : Int) != 0)) rfl]
    refine (aIf_pos ?_).trans ?_
    · simp only [shOK_ret, has_tup, has_agg, hasL_cons, hasL_nil, has_int, List.getD_cons_zero, List.getD_cons_succ, List.length_cons, List.length_nil, beq_self_eq_true, hin, hn, Bool.and_self]
      rfl
    · unfold inB
      rw [h1]
      refine congrArg (fun u => some (AEnd.ret (AV.tup [AV.bool u, AV.int .i64 0]), [])) ?_
      show _ = sameB [.int .u8 (x 0), .int .u8 (x 1), .int .u8 (x 2), .int .u8 (x 3)] [.int .u8 (y 0), .int .u8 (y 1), .int .u8 (y 2), .int .u8 (y 3)] n.toNat
      rw [Bool.eq_iff_iff, ← cut_same (b8_4 hx) (b8_4 hy) rfl (show n.toNat ≤ 32 by omega) h4]
      have hb := bytes4 hcu hcl
      constructor
      · intro h
        have h' : ((byteAt (cutX [.int .u8 (y 0), .int .u8 (y 1), .int .u8 (y 2), .int .u8 (y 3)] n.toNat) 0 == x 0 && (byteAt (cutX [.int .u8 (y 0), .int .u8 (y 1), .int .u8 (y 2), .int .u8 (y 3)] n.toNat) 1 == x 1 && (byteAt (cutX [.int .u8 (y 0), .int .u8 (y 1), .int .u8 (y 2), .int .u8 (y 3)] n.toNat) 2 == x 2 && (byteAt (cutX [.int .u8 (y 0), .int .u8 (y 1), .int .u8 (y 2), .int .u8 (y 3)] n.toNat) 3 == x 3 && true)))) && (n == n && true)) = true := h
        simp only [Bool.and_eq_true, beq_iff_eq] at h'
        obtain ⟨⟨q0, q1, q2, q3, _⟩, _⟩ := h'
        rw [hb]
        simp only [q0, q1, q2, q3]
      · intro h
        show ((byteAt (cutX [.int .u8 (y 0), .int .u8 (y 1), .int .u8 (y 2), .int .u8 (y 3)] n.toNat) 0 == x 0 && (byteAt (cutX [.int .u8 (y 0), .int .u8 (y 1), .int .u8 (y 2), .int .u8 (y 3)] n.toNat) 1 == x 1 && (byteAt (cutX [.int .u8 (y 0), .int .u8 (y 1), .int .u8 (y 2), .int .u8 (y 3)] n.toNat) 2 == x 2 && (byteAt (cutX [.int .u8 (y 0), .int .u8 (y 1), .int .u8 (y 2), .int .u8 (y 3)] n.toNat) 3 == x 3 && true)))) && (n == n && true)) = true
        rw [h]
        show ((x 0 == x 0 && (x 1 == x 1 && (x 2 == x 2 && (x 3 == x 3 && true)))) && (n == n && true)) = true
        simp only [beq_self_eq_true, Bool.and_self]
  · rw [h1]
    unfold inB
    rw [h1]
    rfl

/-- ferryman/ferrymanref02.Prefix4 -/
noncomputable def T38 : List (FuncId × FSpec) := [(29, V29), (31, S31), (45, S45), (47, S47), (48, S48)]
theorem T38_ok : TabOK Tryd.prog T38 := TabOK.cons En29 V29_ok (TabOK.cons En31 S31_ok (TabOK.cons En45 S45_ok (TabOK.cons En47 S47_ok (TabOK.cons En48 S48_ok (TabOK.nil _)))))
noncomputable def C38 : Ctx := (ctx E T38 [] [(0, [0, 2]), (1, [0, 2, 5]), (2, [0, 2, 5, 6, 7, 8]), (3, [0, 2, 5, 6, 7, 22]), (4, [2, 3, 4]), (5, [0, 2, 5, 6, 28]), (6, [2, 3, 4]), (7, [2, 5, 6, 9]), (8, [2, 5, 6, 7, 9]), (9, [2, 5, 6, 7, 9, 44]), (10, [2, 3, 4]), (11, [2, 5, 10]), (12, [2, 5, 10, 56]), (13, [2, 3, 4]), (14, [2, 3, 4])] [] 60 70)
theorem C38_ok : CtxOK Tryd.prog C38 := ctx_ok E_ok E_flds mixed T38_ok
noncomputable def B38 : FSpec := inlineK C38 Tryd.f38
noncomputable def S38 : FSpec := fun args H k => match args, H with
  | [.str s], [] => aIf (strB s [48, 46, 48, 46, 48, 46, 48, 47, 56]) (k (.ret (.tup [.agg [.int .u8 0, .int .u8 0, .int .u8 0, .int .u8 0, .int .i64 8], .int .i64 0, .int .i64 0])) []) (aIf (strB s [49, 48, 46, 48, 46, 48, 46, 48, 47, 56]) (k (.ret (.tup [.agg [.int .u8 10, .int .u8 0, .int .u8 0, .int .u8 0, .int .i64 8], .int .i64 0, .int .i64 0])) []) (aIf (strB s [49, 48, 48, 46, 54, 52, 46, 48, 46, 48, 47, 49, 48]) (k (.ret (.tup [.agg [.int .u8 100, .int .u8 64, .int .u8 0, .int .u8 0, .int .i64 10], .int .i64 0, .int .i64 0])) []) (aIf (strB s [49, 50, 55, 46, 48, 46, 48, 46, 48, 47, 56]) (k (.ret (.tup [.agg [.int .u8 127, .int .u8 0, .int .u8 0, .int .u8 0, .int .i64 8], .int .i64 0, .int .i64 0])) []) (aIf (strB s [49, 54, 57, 46, 50, 53, 52, 46, 48, 46, 48, 47, 49, 54]) (k (.ret (.tup [.agg [.int .u8 169, .int .u8 254, .int .u8 0, .int .u8 0, .int .i64 16], .int .i64 0, .int .i64 0])) []) (aIf (strB s [49, 55, 50, 46, 49, 54, 46, 48, 46, 48, 47, 49, 50]) (k (.ret (.tup [.agg [.int .u8 172, .int .u8 16, .int .u8 0, .int .u8 0, .int .i64 12], .int .i64 0, .int .i64 0])) []) (aIf (strB s [49, 57, 50, 46, 48, 46, 48, 46, 48, 47, 50, 52]) (k (.ret (.tup [.agg [.int .u8 192, .int .u8 0, .int .u8 0, .int .u8 0, .int .i64 24], .int .i64 0, .int .i64 0])) []) (aIf (strB s [49, 57, 50, 46, 48, 46, 50, 46, 48, 47, 50, 52]) (k (.ret (.tup [.agg [.int .u8 192, .int .u8 0, .int .u8 2, .int .u8 0, .int .i64 24], .int .i64 0, .int .i64 0])) []) (aIf (strB s [49, 57, 50, 46, 49, 54, 56, 46, 48, 46, 48, 47, 49, 54]) (k (.ret (.tup [.agg [.int .u8 192, .int .u8 168, .int .u8 0, .int .u8 0, .int .i64 16], .int .i64 0, .int .i64 0])) []) (aIf (strB s [49, 57, 56, 46, 49, 56, 46, 48, 46, 48, 47, 49, 53]) (k (.ret (.tup [.agg [.int .u8 198, .int .u8 18, .int .u8 0, .int .u8 0, .int .i64 15], .int .i64 0, .int .i64 0])) []) (aIf (strB s [49, 57, 56, 46, 53, 49, 46, 49, 48, 48, 46, 48, 47, 50, 52]) (k (.ret (.tup [.agg [.int .u8 198, .int .u8 51, .int .u8 100, .int .u8 0, .int .i64 24], .int .i64 0, .int .i64 0])) []) (aIf (strB s [50, 48, 51, 46, 48, 46, 49, 49, 51, 46, 48, 47, 50, 52]) (k (.ret (.tup [.agg [.int .u8 203, .int .u8 0, .int .u8 113, .int .u8 0, .int .i64 24], .int .i64 0, .int .i64 0])) []) (aIf (strB s [50, 50, 52, 46, 48, 46, 48, 46, 48, 47, 52]) (k (.ret (.tup [.agg [.int .u8 224, .int .u8 0, .int .u8 0, .int .u8 0, .int .i64 4], .int .i64 0, .int .i64 0])) []) (aIf (strB s [50, 52, 48, 46, 48, 46, 48, 46, 48, 47, 52]) (k (.ret (.tup [.agg [.int .u8 240, .int .u8 0, .int .u8 0, .int .u8 0, .int .i64 4], .int .i64 0, .int .i64 0])) []) (none))))))))))))))
  | _, _ => none
theorem B38_ok : SpecOK Tryd.prog 38 B38 := inlineK_ok C38_ok Tryd.func38 (fun _ _ => LoopsOK.none _)
theorem B38_c0 (k : KE) : B38 [.str ⟨⟨[48, 46, 48, 46, 48, 46, 48, 47, 56]⟩⟩] [] k = k (.ret (.tup [.agg [.int .u8 0, .int .u8 0, .int .u8 0, .int .u8 0, .int .i64 8], .int .i64 0, .int .i64 0])) [] := by kernel_rfl
theorem B38_c1 (k : KE) : B38 [.str ⟨⟨[49, 48, 46, 48, 46, 48, 46, 48, 47, 56]⟩⟩] [] k = k (.ret (.tup [.agg [.int .u8 10, .int .u8 0, .int .u8 0, .int .u8 0, .int .i64 8], .int .i64 0, .int .i64 0])) [] := by kernel_rfl
theorem B38_c2 (k : KE) : B38 [.str ⟨⟨[49, 48, 48, 46, 54, 52, 46, 48, 46, 48, 47, 49, 48]⟩⟩] [] k = k (.ret (.tup [.agg [.int .u8 100, .int .u8 64, .int .u8 0, .int .u8 0, .int .i64 10], .int .i64 0, .int .i64 0])) [] := by kernel_rfl
theorem B38_c3 (k : KE) : B38 [.str ⟨⟨[49, 50, 55, 46, 48, 46, 48, 46, 48, 47, 56]⟩⟩] [] k = k (.ret (.tup [.agg [.int .u8 127, .int .u8 0, .int .u8 0, .int .u8 0, .int .i64 8], .int .i64 0, .int .i64 0])) [] := by kernel_rfl
theorem B38_c4 (k : KE) : B38 [.str ⟨⟨[49, 54, 57, 46, 50, 53, 52, 46, 48, 46, 48, 47, 49, 54]⟩⟩] [] k = k (.ret (.tup [.agg [.int .u8 169, .int .u8 254, .int .u8 0, .int .u8 0, .int .i64 16], .int .i64 0, .int .i64 0])) [] := by kernel_rfl
theorem B38_c5 (k : KE) : B38 [.str ⟨⟨[49, 55, 50, 46, 49, 54, 46, 48, 46, 48, 47, 49, 50]⟩⟩] [] k = k (.ret (.tup [.agg [.int .u8 172, .int .u8 16, .int .u8 0, .int .u8 0, .int .i64 12], .int .i64 0, .int .i64 0])) [] := by kernel_rfl
theorem B38_c6 (k : KE) : B38 [.str ⟨⟨[49, 57, 50, 46, 48, 46, 48, 46, 48, 47, 50, 52]⟩⟩] [] k = k (.ret (.tup [.agg [.int .u8 192, .int .u8 0, .int .u8 0, .int .u8 0, .int .i64 24], .int .i64 0, .int .i64 0])) [] := by kernel_rfl
theorem B38_c7 (k : KE) : B38 [.str ⟨⟨[49, 57, 50, 46, 48, 46, 50, 46, 48, 47, 50, 52]⟩⟩] [] k = k (.ret (.tup [.agg [.int .u8 192, .int .u8 0, .int .u8 2, .int .u8 0, .int .i64 24], .int .i64 0, .int .i64 0])) [] := by kernel_rfl
theorem B38_c8 (k : KE) : B38 [.str ⟨⟨[49, 57, 50, 46, 49, 54, 56, 46, 48, 46, 48, 47, 49, 54]⟩⟩] [] k = k (.ret (.tup [.agg [.int .u8 192, .int .u8 168, .int .u8 0, .int .u8 0, .int .i64 16], .int .i64 0, .int .i64 0])) [] := by kernel_rfl
theorem B38_c9 (k : KE) : B38 [.str ⟨⟨[49, 57, 56, 46, 49, 56, 46, 48, 46, 48, 47, 49, 53]⟩⟩] [] k = k (.ret (.tup [.agg [.int .u8 198, .int .u8 18, .int .u8 0, .int .u8 0, .int .i64 15], .int .i64 0, .int .i64 0])) [] := by kernel_rfl
theorem B38_c10 (k : KE) : B38 [.str ⟨⟨[49, 57, 56, 46, 53, 49, 46, 49, 48, 48, 46, 48, 47, 50, 52]⟩⟩] [] k = k (.ret (.tup [.agg [.int .u8 198, .int .u8 51, .int .u8 100, .int .u8 0, .int .i64 24], .int .i64 0, .int .i64 0])) [] := by kernel_rfl
theorem B38_c11 (k : KE) : B38 [.str ⟨⟨[50, 48, 51, 46, 48, 46, 49, 49, 51, 46, 48, 47, 50, 52]⟩⟩] [] k = k (.ret (.tup [.agg [.int .u8 203, .int .u8 0, .int .u8 113, .int .u8 0, .int .i64 24], .int .i64 0, .int .i64 0])) [] := by kernel_rfl
theorem B38_c12 (k : KE) : B38 [.str ⟨⟨[50, 50, 52, 46, 48, 46, 48, 46, 48, 47, 52]⟩⟩] [] k = k (.ret (.tup [.agg [.int .u8 224, .int .u8 0, .int .u8 0, .int .u8 0, .int .i64 4], .int .i64 0, .int .i64 0])) [] := by kernel_rfl
theorem B38_c13 (k : KE) : B38 [.str ⟨⟨[50, 52, 48, 46, 48, 46, 48, 46, 48, 47, 52]⟩⟩] [] k = k (.ret (.tup [.agg [.int .u8 240, .int .u8 0, .int .u8 0, .int .u8 0, .int .i64 4], .int .i64 0, .int .i64 0])) [] := by kernel_rfl
theorem S38_ok : SpecOK Tryd.prog 38 S38 := by
  refine B38_ok.turn fun args H => ?_
  unfold S38
  split
  · rename_i s
    cases h0 : strB s [48, 46, 48, 46, 48, 46, 48, 47, 56]
    rotate_left
    · exact .inr fun k => by rw [strB_eq h0]; exact (B38_c0 k).symm
    simp only [aIf_false]
    cases h1 : strB s [49, 48, 46, 48, 46, 48, 46, 48, 47, 56]
    rotate_left
    · exact .inr fun k => by rw [strB_eq h1]; exact (B38_c1 k).symm
    simp only [aIf_false]
    cases h2 : strB s [49, 48, 48, 46, 54, 52, 46, 48, 46, 48, 47, 49, 48]
    rotate_left
    · exact .inr fun k => by rw [strB_eq h2]; exact (B38_c2 k).symm
    simp only [aIf_false]
    cases h3 : strB s [49, 50, 55, 46, 48, 46, 48, 46, 48, 47, 56]
    rotate_left
    · exact .inr fun k => by rw [strB_eq h3]; exact (B38_c3 k).symm
    simp only [aIf_false]
    cases h4 : strB s [49, 54, 57, 46, 50, 53, 52, 46, 48, 46, 48, 47, 49, 54]
    rotate_left
    · exact .inr fun k => by rw [strB_eq h4]; exact (B38_c4 k).symm
    simp only [aIf_false]
    cases h5 : strB s [49, 55, 50, 46, 49, 54, 46, 48, 46, 48, 47, 49, 50]
    rotate_left
    · exact .inr fun k => by rw [strB_eq h5]; exact (B38_c5 k).symm
    simp only [aIf_false]
    cases h6 : strB s [49, 57, 50, 46, 48, 46, 48, 46, 48, 47, 50, 52]
    rotate_left
    · exact .inr fun k => by rw [strB_eq h6]; exact (B38_c6 k).symm
    simp only [aIf_false]
    cases h7 : strB s [49, 57, 50, 46, 48, 46, 50, 46, 48, 47, 50, 52]
    rotate_left
    · exact .inr fun k => by rw [strB_eq h7]; exact (B38_c7 k).symm
    simp only [aIf_false]
    cases h8 : strB s [49, 57, 50, 46, 49, 54, 56, 46, 48, 46, 48, 47, 49, 54]
    rotate_left
    · exact .inr fun k => by rw [strB_eq h8]; exact (B38_c8 k).symm
    simp only [aIf_false]
    cases h9 : strB s [49, 57, 56, 46, 49, 56, 46, 48, 46, 48, 47, 49, 53]
    rotate_left
    · exact .inr fun k => by rw [strB_eq h9]; exact (B38_c9 k).symm
    simp only [aIf_false]
    cases h10 : strB s [49, 57, 56, 46, 53, 49, 46, 49, 48, 48, 46, 48, 47, 50, 52]
    rotate_left
    · exact .inr fun k => by rw [strB_eq h10]; exact (B38_c10 k).symm
    simp only [aIf_false]
    cases h11 : strB s [50, 48, 51, 46, 48, 46, 49, 49, 51, 46, 48, 47, 50, 52]
    rotate_left
    · exact .inr fun k => by rw [strB_eq h11]; exact (B38_c11 k).symm
    simp only [aIf_false]
    cases h12 : strB s [50, 50, 52, 46, 48, 46, 48, 46, 48, 47, 52]
    rotate_left
    · exact .inr fun k => by rw [strB_eq h12]; exact (B38_c12 k).symm
    simp only [aIf_false]
    cases h13 : strB s [50, 52, 48, 46, 48, 46, 48, 46, 48, 47, 52]
    rotate_left
    · exact .inr fun k => by rw [strB_eq h13]; exact (B38_c13 k).symm
    simp only [aIf_false]
    exact .inl fun _ => by first | rfl | trivial
  · exact .inl fun k => rfl
theorem En38 : Enters Tryd.prog 38 := ⟨_, Tryd.func38, by decide, rfl⟩

/-- ferryman/ferrymanref08.Global -/
noncomputable def T16 : List (FuncId × FSpec) := [(14, V14), (38, S38)]
theorem T16_ok : TabOK Tryd.prog T16 := TabOK.cons En14 V14_ok (TabOK.cons En38 S38_ok (TabOK.nil _))
noncomputable def C16 : Ctx := (ctx E T16 [] [(0, [1]), (1, [1, 3]), (2, [1, 3, 4]), (3, [1, 3, 4, 14]), (4, [1, 3, 4]), (5, [1, 3, 4, 5]), (6, [1, 3, 4, 8]), (7, [1, 3, 4, 32]), (8, [2]), (9, [2]), (1000003, [1, 3, 4])] [] 33 20)
theorem C16_ok : CtxOK Tryd.prog C16 := ctx_ok E_ok E_flds mixed T16_ok
noncomputable def S16 : FSpec := inlineK C16 Tryd.f16
theorem S16_ok : SpecOK Tryd.prog 16 S16 := inlineK_ok C16_ok Tryd.func16 (fun _ _ => LoopsOK.none _)
theorem En16 : Enters Tryd.prog 16 := ⟨_, Tryd.func16, by decide, rfl⟩
noncomputable def R16 (args : List AV) : Res := S16 args [] encK
noncomputable def V16 : FSpec := leafK (.bool) R16
theorem V16_ok : SpecOK Tryd.prog 16 V16 := leafK_ok S16_ok (fun _ => rfl)
theorem N16 (z : Nat → Int) : S16 [.agg [.int .u8 (z 0), .int .u8 (z 1), .int .u8 (z 2), .int .u8 (z 3)]] [] encK =
  aIf (shOK (Sh.tup [Sh.bool, Sh.int IntKind.i64]) (R14 [AV.agg [AV.int IntKind.u8 0, AV.int IntKind.u8 0, AV.int IntKind.u8 0, AV.int IntKind.u8 0, AV.int IntKind.i64 8], AV.agg [AV.int IntKind.u8 (z 0), AV.int IntKind.u8 (z 1), AV.int IntKind.u8 (z 2), AV.int IntKind.u8 (z 3)]])) (aIf (sel (R14 [AV.agg [AV.int IntKind.u8 0, AV.int IntKind.u8 0, AV.int IntKind.u8 0, AV.int IntKind.u8 0, AV.int IntKind.i64 8], AV.agg [AV.int IntKind.u8 (z 0), AV.int IntKind.u8 (z 1), AV.int IntKind.u8 (z 2), AV.int IntKind.u8 (z 3)]]) [0]).toBool (some (AEnd.ret (AV.bool false), [])) (aIf (shOK (Sh.tup [Sh.bool, Sh.int IntKind.i64]) (R14 [AV.agg [AV.int IntKind.u8 10, AV.int IntKind.u8 0, AV.int IntKind.u8 0, AV.int IntKind.u8 0, AV.int IntKind.i64 8], AV.agg [AV.int IntKind.u8 (z 0), AV.int IntKind.u8 (z 1), AV.int IntKind.u8 (z 2), AV.int IntKind.u8 (z 3)]])) (aIf (sel (R14 [AV.agg [AV.int IntKind.u8 10, AV.int IntKind.u8 0, AV.int IntKind.u8 0, AV.int IntKind.u8 0, AV.int IntKind.i64 8], AV.agg [AV.int IntKind.u8 (z 0), AV.int IntKind.u8 (z 1), AV.int IntKind.u8 (z 2), AV.int IntKind.u8 (z 3)]]) [0]).toBool (some (AEnd.ret (AV.bool false), [])) (aIf (shOK (Sh.tup [Sh.bool, Sh.int IntKind.i64]) (R14 [AV.agg [AV.int IntKind.u8 100, AV.int IntKind.u8 64, AV.int IntKind.u8 0, AV.int IntKind.u8 0, AV.int IntKind.i64 10], AV.agg [AV.int IntKind.u8 (z 0), AV.int IntKind.u8 (z 1), AV.int IntKind.u8 (z 2), AV.int IntKind.u8 (z 3)]])) (aIf (sel (R14 [AV.agg [AV.int IntKind.u8 100, AV.int IntKind.u8 64, AV.int IntKind.u8 0, AV.int IntKind.u8 0, AV.int IntKind.i64 10], AV.agg [AV.int IntKind.u8 (z 0), AV.int IntKind.u8 (z 1), AV.int IntKind.u8 (z 2), AV.int IntKind.u8 (z 3)]]) [0]).toBool (some (AEnd.ret (AV.bool false), [])) (aIf (shOK (Sh.tup [Sh.bool, Sh.int IntKind.i64]) (R14 [AV.agg [AV.int IntKind.u8 127, AV.int IntKind.u8 0, AV.int IntKind.u8 0, AV.int IntKind.u8 0, AV.int IntKind.i64 8], AV.agg [AV.int IntKind.u8 (z 0), AV.int IntKind.u8 (z 1), AV.int IntKind.u8 (z 2), AV.int IntKind.u8 (z 3)]])) (aIf (sel (R14 [AV.agg [AV.int IntKind.u8 127, AV.int IntKind.u8 0, AV.int IntKind.u8 0, AV.int IntKind.u8 0, AV.int IntKind.i64 8], AV.agg [AV.int IntKind.u8 (z 0), AV.int IntKind.u8 (z 1), AV.int IntKind.u8 (z 2), AV.int IntKind.u8 (z 3)]]) [0]).toBool (some (AEnd.ret (AV.bool false), [])) (aIf (shOK (Sh.tup [Sh.bool, Sh.int IntKind.i64]) (R14 [AV.agg [AV.int IntKind.u8 169, AV.int IntKind.u8 254, AV.int IntKind.u8 0, AV.int IntKind.u8 0, AV.int IntKind.i64 16], AV.agg [AV.int IntKind.u8 (z 0), AV.int IntKind.u8 (z 1), AV.int IntKind.u8 (z 2), AV.int IntKind.u8 (z 3)]])) (aIf (sel (R14 [AV.agg [AV.int IntKind.u8 169, AV.int IntKind.u8 254, AV.int IntKind.u8 0, AV.int IntKind.u8 0, AV.int IntKind.i64 16], AV.agg [AV.int IntKind.u8 (z 0), AV.int IntKind.u8 (z 1), AV.int IntKind.u8 (z 2), AV.int IntKind.u8 (z 3)]]) [0]).toBool (some (AEnd.ret (AV.bool false), [])) (aIf (shOK (Sh.tup [Sh.bool, Sh.int IntKind.i64]) (R14 [AV.agg [AV.int IntKind.u8 172, AV.int IntKind.u8 16, AV.int IntKind.u8 0, AV.int IntKind.u8 0, AV.int IntKind.i64 12], AV.agg [AV.int IntKind.u8 (z 0), AV.int IntKind.u8 (z 1), AV.int IntKind.u8 (z 2), AV.int IntKind.u8 (z 3)]])) (aIf (sel (R14 [AV.agg [AV.int IntKind.u8 172, AV.int IntKind.u8 16, AV.int IntKind.u8 0, AV.int IntKind.u8 0, AV.int IntKind.i64 12], AV.agg [AV.int IntKind.u8 (z 0), AV.int IntKind.u8 (z 1), AV.int IntKind.u8 (z 2), AV.int IntKind.u8 (z 3)]]) [0]).toBool (some (AEnd.ret (AV.bool false), [])) (aIf (shOK (Sh.tup [Sh.bool, Sh.int IntKind.i64]) (R14 [AV.agg [AV.int IntKind.u8 192, AV.int IntKind.u8 0, AV.int IntKind.u8 0, AV.int IntKind.u8 0, AV.int IntKind.i64 24], AV.agg [AV.int IntKind.u8 (z 0), AV.int IntKind.u8 (z 1), AV.int IntKind.u8 (z 2), AV.int IntKind.u8 (z 3)]])) (aIf (sel (R14 [AV.agg [AV.int IntKind.u8 192, AV.int IntKind.u8 0, AV.int IntKind.u8 0, AV.int IntKind.u8 0, AV.int IntKind.i64 24], AV.agg [AV.int IntKind.u8 (z 0), AV.int IntKind.u8 (z 1), AV.int IntKind.u8 (z 2), AV.int IntKind.u8 (z 3)]]) [0]).toBool (some (AEnd.ret (AV.bool false), [])) (aIf (shOK (Sh.tup [Sh.bool, Sh.int IntKind.i64]) (R14 [AV.agg [AV.int IntKind.u8 192, AV.int IntKind.u8 0, AV.int IntKind.u8 2, AV.int IntKind.u8 0, AV.int IntKind.i64 24], AV.agg [AV.int IntKind.u8 (z 0), AV.int IntKind.u8 (z 1), AV.int IntKind.u8 (z 2), AV.int IntKind.u8 (z 3)]])) (aIf (sel (R14 [AV.agg [AV.int IntKind.u8 192, AV.int IntKind.u8 0, AV.int IntKind.u8 2, AV.int IntKind.u8 0, AV.int IntKind.i64 24], AV.agg [AV.int IntKind.u8 (z 0), AV.int IntKind.u8 (z 1), AV.int IntKind.u8 (z 2), AV.int IntKind.u8 (z 3)]]) [0]).toBool (some (AEnd.ret (AV.bool false), [])) (aIf (shOK (Sh.tup [Sh.bool, Sh.int IntKind.i64]) (R14 [AV.agg [AV.int IntKind.u8 192, AV.int IntKind.u8 168, AV.int IntKind.u8 0, AV.int IntKind.u8 0, AV.int IntKind.i64 16], AV.agg [AV.int IntKind.u8 (z 0), AV.int IntKind.u8 (z 1), AV.int IntKind.u8 (z 2), AV.int IntKind.u8 (z 3)]])) (aIf (sel (R14 [AV.agg [AV.int IntKind.u8 192, AV.int IntKind.u8 168, AV.int IntKind.u8 0, AV.int IntKind.u8 0, AV.int IntKind.i64 16], AV.agg [AV.int IntKind.u8 (z 0), AV.int IntKind.u8 (z 1), AV.int IntKind.u8 (z 2), AV.int IntKind.u8 (z 3)]]) [0]).toBool (some (AEnd.ret (AV.bool false), [])) (aIf (shOK (Sh.tup [Sh.bool, Sh.int IntKind.i64]) (R14 [AV.agg [AV.int IntKind.u8 198, AV.int IntKind.u8 18, AV.int IntKind.u8 0, AV.int IntKind.u8 0, AV.int IntKind.i64 15], AV.agg [AV.int IntKind.u8 (z 0), AV.int IntKind.u8 (z 1), AV.int IntKind.u8 (z 2), AV.int IntKind.u8 (z 3)]])) (aIf (sel (R14 [AV.agg [AV.int IntKind.u8 198, AV.int IntKind.u8 18, AV.int IntKind.u8 0, AV.int IntKind.u8 0, AV.int IntKind.i64 15], AV.agg [AV.int IntKind.u8 (z 0), AV.int IntKind.u8 (z 1), AV.int IntKind.u8 (z 2), AV.int IntKind.u8 (z 3)]]) [0]).toBool (some (AEnd.ret (AV.bool false), [])) (aIf (shOK (Sh.tup [Sh.bool, Sh.int IntKind.i64]) (R14 [AV.agg [AV.int IntKind.u8 198, AV.int IntKind.u8 51, AV.int IntKind.u8 100, AV.int IntKind.u8 0, AV.int IntKind.i64 24], AV.agg [AV.int IntKind.u8 (z 0), AV.int IntKind.u8 (z 1), AV.int IntKind.u8 (z 2), AV.int IntKind.u8 (z 3)]])) (aIf (sel (R14 [AV.agg [AV.int IntKind.u8 198, AV.int IntKind.u8 51, AV.int IntKind.u8 100, AV.int IntKind.u8 0, AV.int IntKind.i64 24], AV.agg [AV.int IntKind.u8 (z 0), AV.int IntKind.u8 (z 1), AV.int IntKind.u8 (z 2), AV.int IntKind.u8 (z 3)]]) [0]).toBool (some (AEnd.ret (AV.bool false), [])) (aIf (shOK (Sh.tup [Sh.bool, Sh.int IntKind.i64]) (R14 [AV.agg [AV.int IntKind.u8 203, AV.int IntKind.u8 0, AV.int IntKind.u8 113, AV.int IntKind.u8 0, AV.int IntKind.i64 24], AV.agg [AV.int IntKind.u8 (z 0), AV.int IntKind.u8 (z 1), AV.int IntKind.u8 (z 2), AV.int IntKind.u8 (z 3)]])) (aIf (sel (R14 [AV.agg [AV.int IntKind.u8 203, AV.int IntKind.u8 0, AV.int IntKind.u8 113, AV.int IntKind.u8 0, AV.int IntKind.i64 24], AV.agg [AV.int IntKind.u8 (z 0), AV.int IntKind.u8 (z 1), AV.int IntKind.u8 (z 2), AV.int IntKind.u8 (z 3)]]) [0]).toBool (some (AEnd.ret (AV.bool false), [])) (aIf (shOK (Sh.tup [Sh.bool, Sh.int IntKind.i64]) (R14 [AV.agg [AV.int IntKind.u8 224, AV.int IntKind.u8 0, AV.int IntKind.u8 0, AV.int IntKind.u8 0, AV.int IntKind.i64 4], AV.agg [AV.int IntKind.u8 (z 0), AV.int IntKind.u8 (z 1), AV.int IntKind.u8 (z 2), AV.int IntKind.u8 (z 3)]])) (aIf (sel (R14 [AV.agg [AV.int IntKind.u8 224, AV.int IntKind.u8 0, AV.int IntKind.u8 0, AV.int IntKind.u8 0, AV.int IntKind.i64 4], AV.agg [AV.int IntKind.u8 (z 0), AV.int IntKind.u8 (z 1), AV.int IntKind.u8 (z 2), AV.int IntKind.u8 (z 3)]]) [0]).toBool (some (AEnd.ret (AV.bool false), [])) (aIf (shOK (Sh.tup [Sh.bool, Sh.int IntKind.i64]) (R14 [AV.agg [AV.int IntKind.u8 240, AV.int IntKind.u8 0, AV.int IntKind.u8 0, AV.int IntKind.u8 0, AV.int IntKind.i64 4], AV.agg [AV.int IntKind.u8 (z 0), AV.int IntKind.u8 (z 1), AV.int IntKind.u8 (z 2), AV.int IntKind.u8 (z 3)]])) (aIf (sel (R14 [AV.agg [AV.int IntKind.u8 240, AV.int IntKind.u8 0, AV.int IntKind.u8 0, AV.int IntKind.u8 0, AV.int IntKind.i64 4], AV.agg [AV.int IntKind.u8 (z 0), AV.int IntKind.u8 (z 1), AV.int IntKind.u8 (z 2), AV.int IntKind.u8 (z 3)]]) [0]).toBool (some (AEnd.ret (AV.bool false), [])) (some (AEnd.ret (AV.bool true), []))) none)) none)) none)) none)) none)) none)) none)) none)) none)) none)) none)) none)) none)) none := by kernel_rfl
theorem R16_same {z : Nat → Int} (hz : b8 z) : R15 [.agg [.int .u8 (z 0), .int .u8 (z 1), .int .u8 (z 2), .int .u8 (z 3)]] = R16 [.agg [.int .u8 (z 0), .int .u8 (z 1), .int .u8 (z 2), .int .u8 (z 3)]] := by
  show S15 _ [] encK = S16 _ [] encK
  have e : ∀ (a b c d n : Int) (h : (0 ≤ a ∧ a ≤ 255) ∧ (0 ≤ b ∧ b ≤ 255) ∧ (0 ≤ c ∧ c ≤ 255) ∧ (0 ≤ d ∧ d ≤ 255)), R37 [.agg [.int .u8 a, .int .u8 b, .int .u8 c, .int .u8 d, .int .i64 n], .agg [.int .u8 (z 0), .int .u8 (z 1), .int .u8 (z 2), .int .u8 (z 3)]] = R14 [.agg [.int .u8 a, .int .u8 b, .int .u8 c, .int .u8 d, .int .i64 n], .agg [.int .u8 (z 0), .int .u8 (z 1), .int .u8 (z 2), .int .u8 (z 3)]] :=
    fun a b c d n h => (R37_is (x := fun k => [a, b, c, d].getD k 0) (y := z) (n := n) (b8_lit h) hz).trans (R14_is (x := fun k => [a, b, c, d].getD k 0) (y := z) (n := n) (b8_lit h) hz).symm
  rw [N15, N16, e 0 0 0 0 8 (by decide), e 10 0 0 0 8 (by decide), e 100 64 0 0 10 (by decide), e 127 0 0 0 8 (by decide), e 169 254 0 0 16 (by decide), e 172 16 0 0 12 (by decide), e 192 0 0 0 24 (by decide), e 192 0 2 0 24 (by decide), e 192 168 0 0 16 (by decide), e 198 18 0 0 15 (by decide), e 198 51 100 0 24 (by decide), e 203 0 113 0 24 (by decide), e 224 0 0 0 4 (by decide), e 240 0 0 0 4 (by decide)]

/-- ferryman/embed.Known -/
noncomputable def T17 : List (FuncId × FSpec) := []
theorem T17_ok : TabOK Tryd.prog T17 := TabOK.nil _
noncomputable def C17 : Ctx := (ctx E T17 [] [(0, [0]), (1, [0])] [] 3 70)
theorem C17_ok : CtxOK Tryd.prog C17 := ctx_ok E_ok E_flds mixed T17_ok
noncomputable def B17 : FSpec := inlineK C17 Tryd.f17
noncomputable def S17 : FSpec := constK (AV.agg [.int .u8 0, .int .u8 100, .int .u8 255, .int .u8 155, .int .u8 0, .int .u8 0, .int .u8 0, .int .u8 0, .int .u8 0, .int .u8 0, .int .u8 0, .int .u8 0, .int .u8 0, .int .u8 0, .int .u8 0, .int .u8 0, .int .i64 96])
theorem B17_ok : SpecOK Tryd.prog 17 B17 := inlineK_ok C17_ok Tryd.func17 (fun _ _ => LoopsOK.none _)
theorem B17_is (k : KE) : B17 [] [] k = k (.ret (AV.agg [.int .u8 0, .int .u8 100, .int .u8 255, .int .u8 155, .int .u8 0, .int .u8 0, .int .u8 0, .int .u8 0, .int .u8 0, .int .u8 0, .int .u8 0, .int .u8 0, .int .u8 0, .int .u8 0, .int .u8 0, .int .u8 0, .int .i64 96])) [] := by kernel_rfl
theorem S17_ok : SpecOK Tryd.prog 17 S17 := constK_ok B17_ok B17_is
theorem En17 : Enters Tryd.prog 17 := ⟨_, Tryd.func17, by decide, rfl⟩

/-- ferryman/ferrymanref08.Known -/
noncomputable def T18 : List (FuncId × FSpec) := [(30, S30)]
theorem T18_ok : TabOK Tryd.prog T18 := TabOK.cons En30 S30_ok (TabOK.nil _)
noncomputable def C18 : Ctx := (ctx E T18 [] [(0, [0]), (1, [0, 1]), (2, [0])] [] 10 70)
theorem C18_ok : CtxOK Tryd.prog C18 := ctx_ok E_ok E_flds mixed T18_ok
noncomputable def B18 : FSpec := inlineK C18 Tryd.f18
noncomputable def S18 : FSpec := constK (AV.agg [.int .u8 0, .int .u8 100, .int .u8 255, .int .u8 155, .int .u8 0, .int .u8 0, .int .u8 0, .int .u8 0, .int .u8 0, .int .u8 0, .int .u8 0, .int .u8 0, .int .u8 0, .int .u8 0, .int .u8 0, .int .u8 0, .int .i64 96])
theorem B18_ok : SpecOK Tryd.prog 18 B18 := inlineK_ok C18_ok Tryd.func18 (fun _ _ => LoopsOK.none _)
theorem B18_is (k : KE) : B18 [] [] k = k (.ret (AV.agg [.int .u8 0, .int .u8 100, .int .u8 255, .int .u8 155, .int .u8 0, .int .u8 0, .int .u8 0, .int .u8 0, .int .u8 0, .int .u8 0, .int .u8 0, .int .u8 0, .int .u8 0, .int .u8 0, .int .u8 0, .int .u8 0, .int .i64 96])) [] := by kernel_rfl
theorem S18_ok : SpecOK Tryd.prog 18 S18 := constK_ok B18_ok B18_is
theorem En18 : Enters Tryd.prog 18 := ⟨_, Tryd.func18, by decide, rfl⟩

/-- ferryman/ferrymanlaw08.EmbedGlobals -/
noncomputable def T5 : List (FuncId × FSpec) := [(11, S11), (15, V15), (16, V16), (17, S17), (18, S18)]
theorem T5_ok : TabOK Tryd.prog T5 := TabOK.cons En11 S11_ok (TabOK.cons En15 V15_ok (TabOK.cons En16 V16_ok (TabOK.cons En17 S17_ok (TabOK.cons En18 S18_ok (TabOK.nil _)))))
noncomputable def C5 : Ctx := (ctx E T5 [] [(0, [1]), (1, [2])] [] 16 70)
theorem C5_ok : CtxOK Tryd.prog C5 := ctx_ok E_ok E_flds mixed T5_ok
noncomputable def S5 : FSpec := inlineK C5 Tryd.f5
theorem S5_ok : SpecOK Tryd.prog 5 S5 := inlineK_ok C5_ok Tryd.func5 (fun _ _ => LoopsOK.none _)
theorem En5 : Enters Tryd.prog 5 := ⟨_, Tryd.func5, by decide, rfl⟩

end Go.Proofs.YtkbnhliogfcplaaDoor

