import Derived.Test.YtlfhkoajmjfbpaaDoorA20
import Derived.Test.YtlfhkoajmjfbpaaDoorRows
import Derived.Test.YtlfhkoajmjfbpaaDoorPMapAns
import Derived.Test.YtlfhkoajmjfbpaaDoorPEmb
namespace Go.Proofs.YtlfhkoajmjfbpaaDoor
open Go.Abs Go.Pl

set_option maxRecDepth 10000 in
noncomputable def E : Env :=
  Env.mk [none, some (TI.mk (TypeDesc.func (Array.mk []) (Array.mk []) false) 1 8 [AV.nilf] true false [CK.other]), some (TI.mk (TypeDesc.int IntKind.i64) 1 8 [AV.int IntKind.i64 0] true true [CK.int IntKind.i64]), some (TI.mk (TypeDesc.int IntKind.i64) 1 8 [AV.int IntKind.i64 0] true true [CK.int IntKind.i64]), some (TI.mk TypeDesc.bool 1 1 [AV.bool false] true true [CK.bool]), some (TI.mk (TypeDesc.int IntKind.u8) 1 1 [AV.int IntKind.u8 0] true true [CK.int IntKind.u8]), some (TI.mk (TypeDesc.int IntKind.u8) 1 1 [AV.int IntKind.u8 0] true true [CK.int IntKind.u8]), some (TI.mk (TypeDesc.struct (Array.mk [Field.mk "x" 2 0 false "" "runtime" 0, Field.mk "y" 3 1 false "" "runtime" 8, Field.mk "signed" 4 2 false "" "runtime" 16, Field.mk "code" 6 3 false "" "runtime" 17])) 4 24 [AV.int IntKind.i64 0, AV.int IntKind.i64 0, AV.bool false, AV.int IntKind.u8 0] true true [CK.int IntKind.i64, CK.int IntKind.i64, CK.bool, CK.int IntKind.u8]), some (TI.mk (TypeDesc.struct (Array.mk [Field.mk "x" 2 0 false "" "runtime" 0, Field.mk "y" 3 1 false "" "runtime" 8, Field.mk "signed" 4 2 false "" "runtime" 16, Field.mk "code" 6 3 false "" "runtime" 17])) 4 24 [AV.int IntKind.i64 0, AV.int IntKind.i64 0, AV.bool false, AV.int IntKind.u8 0] true true [CK.int IntKind.i64, CK.int IntKind.i64, CK.bool, CK.int IntKind.u8]), some (TI.mk TypeDesc.string 1 16 [AV.str (ByteArray.mk (Array.mk []))] true true [CK.str]), some (TI.mk TypeDesc.string 1 16 [AV.str (ByteArray.mk (Array.mk []))] true true [CK.str]), some (TI.mk TypeDesc.string 1 16 [AV.str (ByteArray.mk (Array.mk []))] true true [CK.str]), some (TI.mk (TypeDesc.int IntKind.u64) 1 8 [AV.int IntKind.u64 0] true true [CK.int IntKind.u64]), some (TI.mk (TypeDesc.struct (Array.mk [Field.mk "msg" 9 0 false "" "runtime" 0, Field.mk "addr" 12 1 false "" "runtime" 16])) 2 24 [AV.str (ByteArray.mk (Array.mk [])), AV.int IntKind.u64 0] false true [CK.str, CK.int IntKind.u64]), some (TI.mk (TypeDesc.struct (Array.mk [Field.mk "msg" 9 0 false "" "runtime" 0, Field.mk "addr" 12 1 false "" "runtime" 16])) 2 24 [AV.str (ByteArray.mk (Array.mk [])), AV.int IntKind.u64 0] false true [CK.str, CK.int IntKind.u64]), some (TI.mk (TypeDesc.pointer 153) 1 8 [AV.nilp] true true [CK.other]), some (TI.mk (TypeDesc.pointer 156) 1 8 [AV.nilp] true true [CK.other]), some (TI.mk (TypeDesc.pointer 164) 1 8 [AV.nilp] true true [CK.other]), some (TI.mk (TypeDesc.struct (Array.mk [Field.mk "typ" 17 0 false "" "internal/runtime/maps" 0])) 1 8 [AV.nilp] false true [CK.other]), some (TI.mk (TypeDesc.struct (Array.mk [Field.mk "typ" 17 0 false "" "internal/runtime/maps" 0])) 1 8 [AV.nilp] false true [CK.other]), some (TI.mk (TypeDesc.interface (Array.mk [])) 1 16 [AV.nili] true true [CK.other]), some (TI.mk (TypeDesc.int IntKind.i32) 1 4 [AV.int IntKind.i32 0] true true [CK.int IntKind.i32]), some (TI.mk (TypeDesc.array 16 5) 16 16 [AV.int IntKind.u8 0, AV.int IntKind.u8 0, AV.int IntKind.u8 0, AV.int IntKind.u8 0, AV.int IntKind.u8 0, AV.int IntKind.u8 0, AV.int IntKind.u8 0, AV.int IntKind.u8 0, AV.int IntKind.u8 0, AV.int IntKind.u8 0, AV.int IntKind.u8 0, AV.int IntKind.u8 0, AV.int IntKind.u8 0, AV.int IntKind.u8 0, AV.int IntKind.u8 0, AV.int IntKind.u8 0] true true [CK.int IntKind.u8, CK.int IntKind.u8, CK.int IntKind.u8, CK.int IntKind.u8, CK.int IntKind.u8, CK.int IntKind.u8, CK.int IntKind.u8, CK.int IntKind.u8, CK.int IntKind.u8, CK.int IntKind.u8, CK.int IntKind.u8, CK.int IntKind.u8, CK.int IntKind.u8, CK.int IntKind.u8, CK.int IntKind.u8, CK.int IntKind.u8]), some (TI.mk (TypeDesc.array 16 5) 16 16 [AV.int IntKind.u8 0, AV.int IntKind.u8 0, AV.int IntKind.u8 0, AV.int IntKind.u8 0, AV.int IntKind.u8 0, AV.int IntKind.u8 0, AV.int IntKind.u8 0, AV.int IntKind.u8 0, AV.int IntKind.u8 0, AV.int IntKind.u8 0, AV.int IntKind.u8 0, AV.int IntKind.u8 0, AV.int IntKind.u8 0, AV.int IntKind.u8 0, AV.int IntKind.u8 0, AV.int IntKind.u8 0] true true [CK.int IntKind.u8, CK.int IntKind.u8, CK.int IntKind.u8, CK.int IntKind.u8, CK.int IntKind.u8, CK.int IntKind.u8, CK.int IntKind.u8, CK.int IntKind.u8, CK.int IntKind.u8, CK.int IntKind.u8, CK.int IntKind.u8, CK.int IntKind.u8, CK.int IntKind.u8, CK.int IntKind.u8, CK.int IntKind.u8, CK.int IntKind.u8]), some (TI.mk (TypeDesc.struct (Array.mk [Field.mk "Addr" 23 0 false "" "" 0, Field.mk "Len" 3 16 false "" "" 16])) 17 24 [AV.int IntKind.u8 0, AV.int IntKind.u8 0, AV.int IntKind.u8 0, AV.int IntKind.u8 0, AV.int IntKind.u8 0, AV.int IntKind.u8 0, AV.int IntKind.u8 0, AV.int IntKind.u8 0, AV.int IntKind.u8 0, AV.int IntKind.u8 0, AV.int IntKind.u8 0, AV.int IntKind.u8 0, AV.int IntKind.u8 0, AV.int IntKind.u8 0, AV.int IntKind.u8 0, AV.int IntKind.u8 0, AV.int IntKind.i64 0] true true [CK.int IntKind.u8, CK.int IntKind.u8, CK.int IntKind.u8, CK.int IntKind.u8, CK.int IntKind.u8, CK.int IntKind.u8, CK.int IntKind.u8, CK.int IntKind.u8, CK.int IntKind.u8, CK.int IntKind.u8, CK.int IntKind.u8, CK.int IntKind.u8, CK.int IntKind.u8, CK.int IntKind.u8, CK.int IntKind.u8, CK.int IntKind.u8, CK.int IntKind.i64]), some (TI.mk (TypeDesc.struct (Array.mk [Field.mk "Addr" 23 0 false "" "" 0, Field.mk "Len" 3 16 false "" "" 16])) 17 24 [AV.int IntKind.u8 0, AV.int IntKind.u8 0, AV.int IntKind.u8 0, AV.int IntKind.u8 0, AV.int IntKind.u8 0, AV.int IntKind.u8 0, AV.int IntKind.u8 0, AV.int IntKind.u8 0, AV.int IntKind.u8 0, AV.int IntKind.u8 0, AV.int IntKind.u8 0, AV.int IntKind.u8 0, AV.int IntKind.u8 0, AV.int IntKind.u8 0, AV.int IntKind.u8 0, AV.int IntKind.u8 0, AV.int IntKind.i64 0] true true [CK.int IntKind.u8, CK.int IntKind.u8, CK.int IntKind.u8, CK.int IntKind.u8, CK.int IntKind.u8, CK.int IntKind.u8, CK.int IntKind.u8, CK.int IntKind.u8, CK.int IntKind.u8, CK.int IntKind.u8, CK.int IntKind.u8, CK.int IntKind.u8, CK.int IntKind.u8, CK.int IntKind.u8, CK.int IntKind.u8, CK.int IntKind.u8, CK.int IntKind.i64]), some (TI.mk (TypeDesc.array 4 5) 4 4 [AV.int IntKind.u8 0, AV.int IntKind.u8 0, AV.int IntKind.u8 0, AV.int IntKind.u8 0] true true [CK.int IntKind.u8, CK.int IntKind.u8, CK.int IntKind.u8, CK.int IntKind.u8]), some (TI.mk (TypeDesc.array 4 5) 4 4 [AV.int IntKind.u8 0, AV.int IntKind.u8 0, AV.int IntKind.u8 0, AV.int IntKind.u8 0] true true [CK.int IntKind.u8, CK.int IntKind.u8, CK.int IntKind.u8, CK.int IntKind.u8]), some (TI.mk (TypeDesc.struct (Array.mk [Field.mk "Addr" 27 0 false "" "" 0, Field.mk "Len" 3 4 false "" "" 8])) 5 16 [AV.int IntKind.u8 0, AV.int IntKind.u8 0, AV.int IntKind.u8 0, AV.int IntKind.u8 0, AV.int IntKind.i64 0] true true [CK.int IntKind.u8, CK.int IntKind.u8, CK.int IntKind.u8, CK.int IntKind.u8, CK.int IntKind.i64]), some (TI.mk (TypeDesc.struct (Array.mk [Field.mk "Addr" 27 0 false "" "" 0, Field.mk "Len" 3 4 false "" "" 8])) 5 16 [AV.int IntKind.u8 0, AV.int IntKind.u8 0, AV.int IntKind.u8 0, AV.int IntKind.u8 0, AV.int IntKind.i64 0] true true [CK.int IntKind.u8, CK.int IntKind.u8, CK.int IntKind.u8, CK.int IntKind.u8, CK.int IntKind.i64]), some (TI.mk (TypeDesc.struct (Array.mk [Field.mk "V6" 25 0 false "" "" 0, Field.mk "V4" 29 17 false "" "" 24, Field.mk "EA" 3 22 false "" "" 40, Field.mk "Offset" 3 23 false "" "" 48, Field.mk "FMR" 4 24 false "" "" 56])) 25 64 [AV.int IntKind.u8 0, AV.int IntKind.u8 0, AV.int IntKind.u8 0, AV.int IntKind.u8 0, AV.int IntKind.u8 0, AV.int IntKind.u8 0, AV.int IntKind.u8 0, AV.int IntKind.u8 0, AV.int IntKind.u8 0, AV.int IntKind.u8 0, AV.int IntKind.u8 0, AV.int IntKind.u8 0, AV.int IntKind.u8 0, AV.int IntKind.u8 0, AV.int IntKind.u8 0, AV.int IntKind.u8 0, AV.int IntKind.i64 0, AV.int IntKind.u8 0, AV.int IntKind.u8 0, AV.int IntKind.u8 0, AV.int IntKind.u8 0, AV.int IntKind.i64 0, AV.int IntKind.i64 0, AV.int IntKind.i64 0, AV.bool false] true true [CK.int IntKind.u8, CK.int IntKind.u8, CK.int IntKind.u8, CK.int IntKind.u8, CK.int IntKind.u8, CK.int IntKind.u8, CK.int IntKind.u8, CK.int IntKind.u8, CK.int IntKind.u8, CK.int IntKind.u8, CK.int IntKind.u8, CK.int IntKind.u8, CK.int IntKind.u8, CK.int IntKind.u8, CK.int IntKind.u8, CK.int IntKind.u8, CK.int IntKind.i64, CK.int IntKind.u8, CK.int IntKind.u8, CK.int IntKind.u8, CK.int IntKind.u8, CK.int IntKind.i64, CK.int IntKind.i64, CK.int IntKind.i64, CK.bool]), some (TI.mk (TypeDesc.struct (Array.mk [Field.mk "V6" 25 0 false "" "" 0, Field.mk "V4" 29 17 false "" "" 24, Field.mk "EA" 3 22 false "" "" 40, Field.mk "Offset" 3 23 false "" "" 48, Field.mk "FMR" 4 24 false "" "" 56])) 25 64 [AV.int IntKind.u8 0, AV.int IntKind.u8 0, AV.int IntKind.u8 0, AV.int IntKind.u8 0, AV.int IntKind.u8 0, AV.int IntKind.u8 0, AV.int IntKind.u8 0, AV.int IntKind.u8 0, AV.int IntKind.u8 0, AV.int IntKind.u8 0, AV.int IntKind.u8 0, AV.int IntKind.u8 0, AV.int IntKind.u8 0, AV.int IntKind.u8 0, AV.int IntKind.u8 0, AV.int IntKind.u8 0, AV.int IntKind.i64 0, AV.int IntKind.u8 0, AV.int IntKind.u8 0, AV.int IntKind.u8 0, AV.int IntKind.u8 0, AV.int IntKind.i64 0, AV.int IntKind.i64 0, AV.int IntKind.i64 0, AV.bool false] true true [CK.int IntKind.u8, CK.int IntKind.u8, CK.int IntKind.u8, CK.int IntKind.u8, CK.int IntKind.u8, CK.int IntKind.u8, CK.int IntKind.u8, CK.int IntKind.u8, CK.int IntKind.u8, CK.int IntKind.u8, CK.int IntKind.u8, CK.int IntKind.u8, CK.int IntKind.u8, CK.int IntKind.u8, CK.int IntKind.u8, CK.int IntKind.u8, CK.int IntKind.i64, CK.int IntKind.u8, CK.int IntKind.u8, CK.int IntKind.u8, CK.int IntKind.u8, CK.int IntKind.i64, CK.int IntKind.i64, CK.int IntKind.i64, CK.bool]), some (TI.mk (TypeDesc.int IntKind.u64) 1 8 [AV.int IntKind.u64 0] true true [CK.int IntKind.u64]), some (TI.mk (TypeDesc.int IntKind.u16) 1 2 [AV.int IntKind.u16 0] true true [CK.int IntKind.u16]), some (TI.mk (TypeDesc.struct (Array.mk [Field.mk "Offset" 3 0 false "" "" 0, Field.mk "Len" 3 1 false "" "" 8, Field.mk "PSID" 33 2 false "" "" 16])) 3 24 [AV.int IntKind.i64 0, AV.int IntKind.i64 0, AV.int IntKind.u16 0] true true [CK.int IntKind.i64, CK.int IntKind.i64, CK.int IntKind.u16]), some (TI.mk (TypeDesc.struct (Array.mk [Field.mk "Offset" 3 0 false "" "" 0, Field.mk "Len" 3 1 false "" "" 8, Field.mk "PSID" 33 2 false "" "" 16])) 3 24 [AV.int IntKind.i64 0, AV.int IntKind.i64 0, AV.int IntKind.u16 0] true true [CK.int IntKind.i64, CK.int IntKind.i64, CK.int IntKind.u16]), some (TI.mk (TypeDesc.struct (Array.mk [Field.mk "V4" 29 0 false "" "" 0, Field.mk "Set" 35 5 false "" "" 16, Field.mk "End" 25 8 false "" "" 40, Field.mk "Own" 23 25 false "" "" 64])) 41 80 [AV.int IntKind.u8 0, AV.int IntKind.u8 0, AV.int IntKind.u8 0, AV.int IntKind.u8 0, AV.int IntKind.i64 0, AV.int IntKind.i64 0, AV.int IntKind.i64 0, AV.int IntKind.u16 0, AV.int IntKind.u8 0, AV.int IntKind.u8 0, AV.int IntKind.u8 0, AV.int IntKind.u8 0, AV.int IntKind.u8 0, AV.int IntKind.u8 0, AV.int IntKind.u8 0, AV.int IntKind.u8 0, AV.int IntKind.u8 0, AV.int IntKind.u8 0, AV.int IntKind.u8 0, AV.int IntKind.u8 0, AV.int IntKind.u8 0, AV.int IntKind.u8 0, AV.int IntKind.u8 0, AV.int IntKind.u8 0, AV.int IntKind.i64 0, AV.int IntKind.u8 0, AV.int IntKind.u8 0, AV.int IntKind.u8 0, AV.int IntKind.u8 0, AV.int IntKind.u8 0, AV.int IntKind.u8 0, AV.int IntKind.u8 0, AV.int IntKind.u8 0, AV.int IntKind.u8 0, AV.int IntKind.u8 0, AV.int IntKind.u8 0, AV.int IntKind.u8 0, AV.int IntKind.u8 0, AV.int IntKind.u8 0, AV.int IntKind.u8 0, AV.int IntKind.u8 0] true true [CK.int IntKind.u8, CK.int IntKind.u8, CK.int IntKind.u8, CK.int IntKind.u8, CK.int IntKind.i64, CK.int IntKind.i64, CK.int IntKind.i64, CK.int IntKind.u16, CK.int IntKind.u8, CK.int IntKind.u8, CK.int IntKind.u8, CK.int IntKind.u8, CK.int IntKind.u8, CK.int IntKind.u8, CK.int IntKind.u8, CK.int IntKind.u8, CK.int IntKind.u8, CK.int IntKind.u8, CK.int IntKind.u8, CK.int IntKind.u8, CK.int IntKind.u8, CK.int IntKind.u8, CK.int IntKind.u8, CK.int IntKind.u8, CK.int IntKind.i64, CK.int IntKind.u8, CK.int IntKind.u8, CK.int IntKind.u8, CK.int IntKind.u8, CK.int IntKind.u8, CK.int IntKind.u8, CK.int IntKind.u8, CK.int IntKind.u8, CK.int IntKind.u8, CK.int IntKind.u8, CK.int IntKind.u8, CK.int IntKind.u8, CK.int IntKind.u8, CK.int IntKind.u8, CK.int IntKind.u8, CK.int IntKind.u8]), some (TI.mk (TypeDesc.struct (Array.mk [Field.mk "V4" 29 0 false "" "" 0, Field.mk "Set" 35 5 false "" "" 16, Field.mk "End" 25 8 false "" "" 40, Field.mk "Own" 23 25 false "" "" 64])) 41 80 [AV.int IntKind.u8 0, AV.int IntKind.u8 0, AV.int IntKind.u8 0, AV.int IntKind.u8 0, AV.int IntKind.i64 0, AV.int IntKind.i64 0, AV.int IntKind.i64 0, AV.int IntKind.u16 0, AV.int IntKind.u8 0, AV.int IntKind.u8 0, AV.int IntKind.u8 0, AV.int IntKind.u8 0, AV.int IntKind.u8 0, AV.int IntKind.u8 0, AV.int IntKind.u8 0, AV.int IntKind.u8 0, AV.int IntKind.u8 0, AV.int IntKind.u8 0, AV.int IntKind.u8 0, AV.int IntKind.u8 0, AV.int IntKind.u8 0, AV.int IntKind.u8 0, AV.int IntKind.u8 0, AV.int IntKind.u8 0, AV.int IntKind.i64 0, AV.int IntKind.u8 0, AV.int IntKind.u8 0, AV.int IntKind.u8 0, AV.int IntKind.u8 0, AV.int IntKind.u8 0, AV.int IntKind.u8 0, AV.int IntKind.u8 0, AV.int IntKind.u8 0, AV.int IntKind.u8 0, AV.int IntKind.u8 0, AV.int IntKind.u8 0, AV.int IntKind.u8 0, AV.int IntKind.u8 0, AV.int IntKind.u8 0, AV.int IntKind.u8 0, AV.int IntKind.u8 0] true true [CK.int IntKind.u8, CK.int IntKind.u8, CK.int IntKind.u8, CK.int IntKind.u8, CK.int IntKind.i64, CK.int IntKind.i64, CK.int IntKind.i64, CK.int IntKind.u16, CK.int IntKind.u8, CK.int IntKind.u8, CK.int IntKind.u8, CK.int IntKind.u8, CK.int IntKind.u8, CK.int IntKind.u8, CK.int IntKind.u8, CK.int IntKind.u8, CK.int IntKind.u8, CK.int IntKind.u8, CK.int IntKind.u8, CK.int IntKind.u8, CK.int IntKind.u8, CK.int IntKind.u8, CK.int IntKind.u8, CK.int IntKind.u8, CK.int IntKind.i64, CK.int IntKind.u8, CK.int IntKind.u8, CK.int IntKind.u8, CK.int IntKind.u8, CK.int IntKind.u8, CK.int IntKind.u8, CK.int IntKind.u8, CK.int IntKind.u8, CK.int IntKind.u8, CK.int IntKind.u8, CK.int IntKind.u8, CK.int IntKind.u8, CK.int IntKind.u8, CK.int IntKind.u8, CK.int IntKind.u8, CK.int IntKind.u8]), some (TI.mk (TypeDesc.int IntKind.i64) 1 8 [AV.int IntKind.i64 0] true true [CK.int IntKind.i64]), none, some (TI.mk (TypeDesc.func (Array.mk [31, 32]) (Array.mk [37, 38]) false) 1 8 [AV.nilf] true false [CK.other]), some (TI.mk (TypeDesc.func (Array.mk []) (Array.mk [4]) false) 1 8 [AV.nilf] true false [CK.other]), some (TI.mk (TypeDesc.func (Array.mk [31, 32]) (Array.mk [4]) false) 1 8 [AV.nilf] true false [CK.other]), none, some (TI.mk (TypeDesc.func (Array.mk [31]) (Array.mk [35, 4, 38]) false) 1 8 [AV.nilf] true false [CK.other]), none, some (TI.mk (TypeDesc.func (Array.mk [31]) (Array.mk [32, 38]) false) 1 8 [AV.nilf] true false [CK.other]), some (TI.mk (TypeDesc.func (Array.mk [31]) (Array.mk [38]) false) 1 8 [AV.nilf] true false [CK.other]), some (TI.mk (TypeDesc.func (Array.mk [31]) (Array.mk [4]) false) 1 8 [AV.nilf] true false [CK.other]), none, some (TI.mk (TypeDesc.func (Array.mk [37, 27, 33]) (Array.mk [4, 38]) false) 1 8 [AV.nilf] true false [CK.other]), some (TI.mk (TypeDesc.func (Array.mk [25, 23]) (Array.mk [4, 38]) false) 1 8 [AV.nilf] true false [CK.other]), some (TI.mk (TypeDesc.func (Array.mk [31, 32, 32, 27, 33, 23]) (Array.mk [4]) false) 1 8 [AV.nilf] true false [CK.other]), some (TI.mk (TypeDesc.func (Array.mk [31, 23]) (Array.mk [32, 38]) false) 1 8 [AV.nilf] true false [CK.other]), some (TI.mk (TypeDesc.func (Array.mk [31, 27, 33]) (Array.mk [32, 38]) false) 1 8 [AV.nilf] true false [CK.other]), none, some (TI.mk (TypeDesc.func (Array.mk [31, 27, 33]) (Array.mk [23, 38]) false) 1 8 [AV.nilf] true false [CK.other]), some (TI.mk (TypeDesc.func (Array.mk [31, 23, 27, 33]) (Array.mk [4]) false) 1 8 [AV.nilf] true false [CK.other]), some (TI.mk (TypeDesc.func (Array.mk [31, 23, 27, 33]) (Array.mk [4, 38]) false) 1 8 [AV.nilf] true false [CK.other]), some (TI.mk (TypeDesc.func (Array.mk [37, 31, 23, 27, 33]) (Array.mk [4]) false) 1 8 [AV.nilf] true false [CK.other]), some (TI.mk (TypeDesc.func (Array.mk [25]) (Array.mk [38]) false) 1 8 [AV.nilf] true false [CK.other]), some (TI.mk (TypeDesc.func (Array.mk [29]) (Array.mk [38]) false) 1 8 [AV.nilf] true false [CK.other]), some (TI.mk (TypeDesc.func (Array.mk [31, 32, 23, 27, 33]) (Array.mk [4]) false) 1 8 [AV.nilf] true false [CK.other]), some (TI.mk (TypeDesc.func (Array.mk [31, 33]) (Array.mk [4]) false) 1 8 [AV.nilf] true false [CK.other]), some (TI.mk (TypeDesc.func (Array.mk [31, 27, 33]) (Array.mk [4]) false) 1 8 [AV.nilf] true false [CK.other]), none, some (TI.mk (TypeDesc.func (Array.mk [31]) (Array.mk [3, 3]) false) 1 8 [AV.nilf] true false [CK.other]), some (TI.mk (TypeDesc.struct (Array.mk [Field.mk "N" 3 0 false "" "" 0, Field.mk "V" 32 1 false "" "" 8])) 2 16 [AV.int IntKind.i64 0, AV.int IntKind.u64 0] true true [CK.int IntKind.i64, CK.int IntKind.u64]), some (TI.mk (TypeDesc.struct (Array.mk [Field.mk "N" 3 0 false "" "" 0, Field.mk "V" 32 1 false "" "" 8])) 2 16 [AV.int IntKind.i64 0, AV.int IntKind.u64 0] true true [CK.int IntKind.i64, CK.int IntKind.u64]), some (TI.mk (TypeDesc.func (Array.mk [70, 3]) (Array.mk [68]) false) 1 8 [AV.nilf] true false [CK.other]), some (TI.mk (TypeDesc.slice 5) 1 24 [AV.fs 1 [] SF.nil] true false [CK.slice 1]), some (TI.mk (TypeDesc.func (Array.mk [94]) (Array.mk [23]) true) 1 8 [AV.nilf] true false [CK.other]), none, some (TI.mk (TypeDesc.func (Array.mk [94]) (Array.mk [70, 38]) true) 1 8 [AV.nilf] true false [CK.other]), some (TI.mk (TypeDesc.func (Array.mk [70, 3, 3]) (Array.mk [32, 38]) false) 1 8 [AV.nilf] true false [CK.other]), some (TI.mk (TypeDesc.int IntKind.u64) 1 8 [AV.int IntKind.u64 0] true true [CK.int IntKind.u64]), some (TI.mk (TypeDesc.func (Array.mk [31, 32]) (Array.mk [37]) false) 1 8 [AV.nilf] true false [CK.other]), some (TI.mk (TypeDesc.func (Array.mk []) (Array.mk [31]) false) 1 8 [AV.nilf] true false [CK.other]), some (TI.mk (TypeDesc.func (Array.mk [23]) (Array.mk [9]) false) 1 8 [AV.nilf] true false [CK.other]), none, some (TI.mk (TypeDesc.func (Array.mk [31]) (Array.mk [3, 4]) false) 1 8 [AV.nilf] true false [CK.other]), some (TI.mk (TypeDesc.func (Array.mk [31]) (Array.mk [3]) false) 1 8 [AV.nilf] true false [CK.other]), some (TI.mk (TypeDesc.func (Array.mk [29, 27]) (Array.mk [4, 38]) false) 1 8 [AV.nilf] true false [CK.other]), some (TI.mk (TypeDesc.func (Array.mk [35, 33]) (Array.mk [4, 38]) false) 1 8 [AV.nilf] true false [CK.other]), none, some (TI.mk (TypeDesc.func (Array.mk [23, 3]) (Array.mk [25, 38]) false) 1 8 [AV.nilf] true false [CK.other]), none, some (TI.mk (TypeDesc.func (Array.mk [3, 3, 33]) (Array.mk [33, 4, 38]) false) 1 8 [AV.nilf] true false [CK.other]), none, some (TI.mk (TypeDesc.func (Array.mk [3, 3, 33]) (Array.mk [33, 4, 3]) false) 1 8 [AV.nilf] true false [CK.other]), none, some (TI.mk (TypeDesc.func (Array.mk [35, 33]) (Array.mk [4, 3]) false) 1 8 [AV.nilf] true false [CK.other]), some (TI.mk (TypeDesc.func (Array.mk [23, 3]) (Array.mk [4]) false) 1 8 [AV.nilf] true false [CK.other]), some (TI.mk (TypeDesc.func (Array.mk [27, 3]) (Array.mk [4]) false) 1 8 [AV.nilf] true false [CK.other]), some (TI.mk (TypeDesc.slice 68) 1 24 [AV.fs 2 [] SF.nil] true false [CK.slice 2]), some (TI.mk (TypeDesc.func (Array.mk [32, 3]) (Array.mk [4]) false) 1 8 [AV.nilf] true false [CK.other]), some (TI.mk (TypeDesc.func (Array.mk [70, 3, 32]) (Array.mk []) false) 1 8 [AV.nilf] true false [CK.other]), some (TI.mk (TypeDesc.func (Array.mk [70, 3, 3]) (Array.mk [4]) false) 1 8 [AV.nilf] true false [CK.other]), some (TI.mk (TypeDesc.func (Array.mk [70, 3]) (Array.mk [32]) false) 1 8 [AV.nilf] true false [CK.other]), some (TI.mk (TypeDesc.func (Array.mk [23, 3, 3, 32]) (Array.mk [23]) false) 1 8 [AV.nilf] true false [CK.other]), some (TI.mk (TypeDesc.func (Array.mk [27, 3, 3, 32]) (Array.mk [27]) false) 1 8 [AV.nilf] true false [CK.other]), none, some (TI.mk (TypeDesc.func (Array.mk [9]) (Array.mk [25, 3, 38]) false) 1 8 [AV.nilf] true false [CK.other]), none, some (TI.mk (TypeDesc.func (Array.mk [9]) (Array.mk [29, 3, 38]) false) 1 8 [AV.nilf] true false [CK.other]), some (TI.mk (TypeDesc.slice 3) 1 24 [AV.fs 1 [] SF.nil] true false [CK.slice 1]), some (TI.mk (TypeDesc.func (Array.mk [105, 3]) (Array.mk [3]) false) 1 8 [AV.nilf] true false [CK.other]), some (TI.mk (TypeDesc.func (Array.mk [2, 3]) (Array.mk [9]) false) 1 8 [AV.nilf] true false [CK.other]), some (TI.mk (TypeDesc.func (Array.mk [70, 3]) (Array.mk [4]) false) 1 8 [AV.nilf] true false [CK.other]), some (TI.mk (TypeDesc.func (Array.mk [70, 70, 3]) (Array.mk [4]) false) 1 8 [AV.nilf] true false [CK.other]), some (TI.mk (TypeDesc.func (Array.mk [35]) (Array.mk [38]) false) 1 8 [AV.nilf] true false [CK.other]), some (TI.mk (TypeDesc.int IntKind.u32) 1 4 [AV.int IntKind.u32 0] true true [CK.int IntKind.u32]), some (TI.mk (TypeDesc.func (Array.mk [35]) (Array.mk [3]) false) 1 8 [AV.nilf] true false [CK.other]), none, some (TI.mk (TypeDesc.func (Array.mk [27, 3]) (Array.mk [29, 38]) false) 1 8 [AV.nilf] true false [CK.other]), some (TI.mk (TypeDesc.func (Array.mk [35]) (Array.mk [4]) false) 1 8 [AV.nilf] true false [CK.other]), some (TI.mk (TypeDesc.func (Array.mk [3, 33]) (Array.mk [3]) false) 1 8 [AV.nilf] true false [CK.other]), some (TI.mk (TypeDesc.func (Array.mk [9]) (Array.mk [3]) false) 1 8 [AV.nilf] true false [CK.other]), none, some (TI.mk (TypeDesc.func (Array.mk [9]) (Array.mk [23, 3, 38]) false) 1 8 [AV.nilf] true false [CK.other]), some (TI.mk (TypeDesc.func (Array.mk [9, 3]) (Array.mk [3]) false) 1 8 [AV.nilf] true false [CK.other]), none, some (TI.mk (TypeDesc.func (Array.mk [9]) (Array.mk [27, 3, 38]) false) 1 8 [AV.nilf] true false [CK.other]), some (TI.mk (TypeDesc.struct (Array.mk [Field.mk "L" 105 0 false "" "" 0, Field.mk "Gap" 3 1 false "" "" 24, Field.mk "Part" 9 2 false "" "" 32])) 3 48 [AV.fs 1 [] SF.nil, AV.int IntKind.i64 0, AV.str (ByteArray.mk (Array.mk []))] true false [CK.slice 1, CK.int IntKind.i64, CK.str]), some (TI.mk (TypeDesc.struct (Array.mk [Field.mk "L" 105 0 false "" "" 0, Field.mk "Gap" 3 1 false "" "" 24, Field.mk "Part" 9 2 false "" "" 32])) 3 48 [AV.fs 1 [] SF.nil, AV.int IntKind.i64 0, AV.str (ByteArray.mk (Array.mk []))] true false [CK.slice 1, CK.int IntKind.i64, CK.str]), none, some (TI.mk (TypeDesc.func (Array.mk [9]) (Array.mk [124, 3]) false) 1 8 [AV.nilf] true false [CK.other]), none, some (TI.mk (TypeDesc.func (Array.mk [9, 124]) (Array.mk [105, 4]) false) 1 8 [AV.nilf] true false [CK.other]), some (TI.mk (TypeDesc.func (Array.mk [9, 3]) (Array.mk [4]) false) 1 8 [AV.nilf] true false [CK.other]), some (TI.mk (TypeDesc.func (Array.mk [9]) (Array.mk [4]) false) 1 8 [AV.nilf] true false [CK.other]), some (TI.mk (TypeDesc.slice 9) 1 24 [AV.fs 1 [] SF.nil] true false [CK.slice 1]), some (TI.mk (TypeDesc.func (Array.mk [9, 5]) (Array.mk [131]) false) 1 8 [AV.nilf] true false [CK.other]), some (TI.mk (TypeDesc.func (Array.mk [3]) (Array.mk [9]) false) 1 8 [AV.nilf] true false [CK.other]), some (TI.mk (TypeDesc.array 24 5) 24 24 [AV.int IntKind.u8 0, AV.int IntKind.u8 0, AV.int IntKind.u8 0, AV.int IntKind.u8 0, AV.int IntKind.u8 0, AV.int IntKind.u8 0, AV.int IntKind.u8 0, AV.int IntKind.u8 0, AV.int IntKind.u8 0, AV.int IntKind.u8 0, AV.int IntKind.u8 0, AV.int IntKind.u8 0, AV.int IntKind.u8 0, AV.int IntKind.u8 0, AV.int IntKind.u8 0, AV.int IntKind.u8 0, AV.int IntKind.u8 0, AV.int IntKind.u8 0, AV.int IntKind.u8 0, AV.int IntKind.u8 0, AV.int IntKind.u8 0, AV.int IntKind.u8 0, AV.int IntKind.u8 0, AV.int IntKind.u8 0] true true [CK.int IntKind.u8, CK.int IntKind.u8, CK.int IntKind.u8, CK.int IntKind.u8, CK.int IntKind.u8, CK.int IntKind.u8, CK.int IntKind.u8, CK.int IntKind.u8, CK.int IntKind.u8, CK.int IntKind.u8, CK.int IntKind.u8, CK.int IntKind.u8, CK.int IntKind.u8, CK.int IntKind.u8, CK.int IntKind.u8, CK.int IntKind.u8, CK.int IntKind.u8, CK.int IntKind.u8, CK.int IntKind.u8, CK.int IntKind.u8, CK.int IntKind.u8, CK.int IntKind.u8, CK.int IntKind.u8, CK.int IntKind.u8]), some (TI.mk (TypeDesc.func (Array.mk [32]) (Array.mk [3]) false) 1 8 [AV.nilf] true false [CK.other]), some (TI.mk (TypeDesc.func (Array.mk [70, 32]) (Array.mk []) false) 1 8 [AV.nilf] true false [CK.other]), none, some (TI.mk (TypeDesc.func (Array.mk [70, 32, 3, 4, 4]) (Array.mk [70, 9]) false) 1 8 [AV.nilf] true false [CK.other]), some (TI.mk (TypeDesc.func (Array.mk []) (Array.mk [3]) false) 1 8 [AV.nilf] true false [CK.other]), some (TI.mk (TypeDesc.func (Array.mk [5]) (Array.mk [4]) false) 1 8 [AV.nilf] true false [CK.other]), some (TI.mk (TypeDesc.func (Array.mk [3]) (Array.mk [3]) false) 1 8 [AV.nilf] true false [CK.other]), some (TI.mk (TypeDesc.func (Array.mk [4]) (Array.mk [3]) false) 1 8 [AV.nilf] true false [CK.other]), some (TI.mk (TypeDesc.array 20 32) 20 160 [AV.int IntKind.u64 0, AV.int IntKind.u64 0, AV.int IntKind.u64 0, AV.int IntKind.u64 0, AV.int IntKind.u64 0, AV.int IntKind.u64 0, AV.int IntKind.u64 0, AV.int IntKind.u64 0, AV.int IntKind.u64 0, AV.int IntKind.u64 0, AV.int IntKind.u64 0, AV.int IntKind.u64 0, AV.int IntKind.u64 0, AV.int IntKind.u64 0, AV.int IntKind.u64 0, AV.int IntKind.u64 0, AV.int IntKind.u64 0, AV.int IntKind.u64 0, AV.int IntKind.u64 0, AV.int IntKind.u64 0] true true [CK.int IntKind.u64, CK.int IntKind.u64, CK.int IntKind.u64, CK.int IntKind.u64, CK.int IntKind.u64, CK.int IntKind.u64, CK.int IntKind.u64, CK.int IntKind.u64, CK.int IntKind.u64, CK.int IntKind.u64, CK.int IntKind.u64, CK.int IntKind.u64, CK.int IntKind.u64, CK.int IntKind.u64, CK.int IntKind.u64, CK.int IntKind.u64, CK.int IntKind.u64, CK.int IntKind.u64, CK.int IntKind.u64, CK.int IntKind.u64]), some (TI.mk (TypeDesc.array 65 5) 65 65 [AV.int IntKind.u8 0, AV.int IntKind.u8 0, AV.int IntKind.u8 0, AV.int IntKind.u8 0, AV.int IntKind.u8 0, AV.int IntKind.u8 0, AV.int IntKind.u8 0, AV.int IntKind.u8 0, AV.int IntKind.u8 0, AV.int IntKind.u8 0, AV.int IntKind.u8 0, AV.int IntKind.u8 0, AV.int IntKind.u8 0, AV.int IntKind.u8 0, AV.int IntKind.u8 0, AV.int IntKind.u8 0, AV.int IntKind.u8 0, AV.int IntKind.u8 0, AV.int IntKind.u8 0, AV.int IntKind.u8 0, AV.int IntKind.u8 0, AV.int IntKind.u8 0, AV.int IntKind.u8 0, AV.int IntKind.u8 0, AV.int IntKind.u8 0, AV.int IntKind.u8 0, AV.int IntKind.u8 0, AV.int IntKind.u8 0, AV.int IntKind.u8 0, AV.int IntKind.u8 0, AV.int IntKind.u8 0, AV.int IntKind.u8 0, AV.int IntKind.u8 0, AV.int IntKind.u8 0, AV.int IntKind.u8 0, AV.int IntKind.u8 0, AV.int IntKind.u8 0, AV.int IntKind.u8 0, AV.int IntKind.u8 0, AV.int IntKind.u8 0, AV.int IntKind.u8 0, AV.int IntKind.u8 0, AV.int IntKind.u8 0, AV.int IntKind.u8 0, AV.int IntKind.u8 0, AV.int IntKind.u8 0, AV.int IntKind.u8 0, AV.int IntKind.u8 0, AV.int IntKind.u8 0, AV.int IntKind.u8 0, AV.int IntKind.u8 0, AV.int IntKind.u8 0, AV.int IntKind.u8 0, AV.int IntKind.u8 0, AV.int IntKind.u8 0, AV.int IntKind.u8 0, AV.int IntKind.u8 0, AV.int IntKind.u8 0, AV.int IntKind.u8 0, AV.int IntKind.u8 0, AV.int IntKind.u8 0, AV.int IntKind.u8 0, AV.int IntKind.u8 0, AV.int IntKind.u8 0, AV.int IntKind.u8 0] true true [CK.int IntKind.u8, CK.int IntKind.u8, CK.int IntKind.u8, CK.int IntKind.u8, CK.int IntKind.u8, CK.int IntKind.u8, CK.int IntKind.u8, CK.int IntKind.u8, CK.int IntKind.u8, CK.int IntKind.u8, CK.int IntKind.u8, CK.int IntKind.u8, CK.int IntKind.u8, CK.int IntKind.u8, CK.int IntKind.u8, CK.int IntKind.u8, CK.int IntKind.u8, CK.int IntKind.u8, CK.int IntKind.u8, CK.int IntKind.u8, CK.int IntKind.u8, CK.int IntKind.u8, CK.int IntKind.u8, CK.int IntKind.u8, CK.int IntKind.u8, CK.int IntKind.u8, CK.int IntKind.u8, CK.int IntKind.u8, CK.int IntKind.u8, CK.int IntKind.u8, CK.int IntKind.u8, CK.int IntKind.u8, CK.int IntKind.u8, CK.int IntKind.u8, CK.int IntKind.u8, CK.int IntKind.u8, CK.int IntKind.u8, CK.int IntKind.u8, CK.int IntKind.u8, CK.int IntKind.u8, CK.int IntKind.u8, CK.int IntKind.u8, CK.int IntKind.u8, CK.int IntKind.u8, CK.int IntKind.u8, CK.int IntKind.u8, CK.int IntKind.u8, CK.int IntKind.u8, CK.int IntKind.u8, CK.int IntKind.u8, CK.int IntKind.u8, CK.int IntKind.u8, CK.int IntKind.u8, CK.int IntKind.u8, CK.int IntKind.u8, CK.int IntKind.u8, CK.int IntKind.u8, CK.int IntKind.u8, CK.int IntKind.u8, CK.int IntKind.u8, CK.int IntKind.u8, CK.int IntKind.u8, CK.int IntKind.u8, CK.int IntKind.u8, CK.int IntKind.u8]), some (TI.mk (TypeDesc.func (Array.mk [3]) (Array.mk [4]) false) 1 8 [AV.nilf] true false [CK.other]), some (TI.mk (TypeDesc.func (Array.mk [75]) (Array.mk [3]) false) 1 8 [AV.nilf] true false [CK.other]), some (TI.mk (TypeDesc.func (Array.mk [5]) (Array.mk [3]) false) 1 8 [AV.nilf] true false [CK.other]), some (TI.mk (TypeDesc.func (Array.mk [111]) (Array.mk [3]) false) 1 8 [AV.nilf] true false [CK.other]), some (TI.mk (TypeDesc.array 32 5) 32 32 [AV.int IntKind.u8 0, AV.int IntKind.u8 0, AV.int IntKind.u8 0, AV.int IntKind.u8 0, AV.int IntKind.u8 0, AV.int IntKind.u8 0, AV.int IntKind.u8 0, AV.int IntKind.u8 0, AV.int IntKind.u8 0, AV.int IntKind.u8 0, AV.int IntKind.u8 0, AV.int IntKind.u8 0, AV.int IntKind.u8 0, AV.int IntKind.u8 0, AV.int IntKind.u8 0, AV.int IntKind.u8 0, AV.int IntKind.u8 0, AV.int IntKind.u8 0, AV.int IntKind.u8 0, AV.int IntKind.u8 0, AV.int IntKind.u8 0, AV.int IntKind.u8 0, AV.int IntKind.u8 0, AV.int IntKind.u8 0, AV.int IntKind.u8 0, AV.int IntKind.u8 0, AV.int IntKind.u8 0, AV.int IntKind.u8 0, AV.int IntKind.u8 0, AV.int IntKind.u8 0, AV.int IntKind.u8 0, AV.int IntKind.u8 0] true true [CK.int IntKind.u8, CK.int IntKind.u8, CK.int IntKind.u8, CK.int IntKind.u8, CK.int IntKind.u8, CK.int IntKind.u8, CK.int IntKind.u8, CK.int IntKind.u8, CK.int IntKind.u8, CK.int IntKind.u8, CK.int IntKind.u8, CK.int IntKind.u8, CK.int IntKind.u8, CK.int IntKind.u8, CK.int IntKind.u8, CK.int IntKind.u8, CK.int IntKind.u8, CK.int IntKind.u8, CK.int IntKind.u8, CK.int IntKind.u8, CK.int IntKind.u8, CK.int IntKind.u8, CK.int IntKind.u8, CK.int IntKind.u8, CK.int IntKind.u8, CK.int IntKind.u8, CK.int IntKind.u8, CK.int IntKind.u8, CK.int IntKind.u8, CK.int IntKind.u8, CK.int IntKind.u8, CK.int IntKind.u8]), some (TI.mk (TypeDesc.array 64 5) 64 64 [AV.int IntKind.u8 0, AV.int IntKind.u8 0, AV.int IntKind.u8 0, AV.int IntKind.u8 0, AV.int IntKind.u8 0, AV.int IntKind.u8 0, AV.int IntKind.u8 0, AV.int IntKind.u8 0, AV.int IntKind.u8 0, AV.int IntKind.u8 0, AV.int IntKind.u8 0, AV.int IntKind.u8 0, AV.int IntKind.u8 0, AV.int IntKind.u8 0, AV.int IntKind.u8 0, AV.int IntKind.u8 0, AV.int IntKind.u8 0, AV.int IntKind.u8 0, AV.int IntKind.u8 0, AV.int IntKind.u8 0, AV.int IntKind.u8 0, AV.int IntKind.u8 0, AV.int IntKind.u8 0, AV.int IntKind.u8 0, AV.int IntKind.u8 0, AV.int IntKind.u8 0, AV.int IntKind.u8 0, AV.int IntKind.u8 0, AV.int IntKind.u8 0, AV.int IntKind.u8 0, AV.int IntKind.u8 0, AV.int IntKind.u8 0, AV.int IntKind.u8 0, AV.int IntKind.u8 0, AV.int IntKind.u8 0, AV.int IntKind.u8 0, AV.int IntKind.u8 0, AV.int IntKind.u8 0, AV.int IntKind.u8 0, AV.int IntKind.u8 0, AV.int IntKind.u8 0, AV.int IntKind.u8 0, AV.int IntKind.u8 0, AV.int IntKind.u8 0, AV.int IntKind.u8 0, AV.int IntKind.u8 0, AV.int IntKind.u8 0, AV.int IntKind.u8 0, AV.int IntKind.u8 0, AV.int IntKind.u8 0, AV.int IntKind.u8 0, AV.int IntKind.u8 0, AV.int IntKind.u8 0, AV.int IntKind.u8 0, AV.int IntKind.u8 0, AV.int IntKind.u8 0, AV.int IntKind.u8 0, AV.int IntKind.u8 0, AV.int IntKind.u8 0, AV.int IntKind.u8 0, AV.int IntKind.u8 0, AV.int IntKind.u8 0, AV.int IntKind.u8 0, AV.int IntKind.u8 0] true true [CK.int IntKind.u8, CK.int IntKind.u8, CK.int IntKind.u8, CK.int IntKind.u8, CK.int IntKind.u8, CK.int IntKind.u8, CK.int IntKind.u8, CK.int IntKind.u8, CK.int IntKind.u8, CK.int IntKind.u8, CK.int IntKind.u8, CK.int IntKind.u8, CK.int IntKind.u8, CK.int IntKind.u8, CK.int IntKind.u8, CK.int IntKind.u8, CK.int IntKind.u8, CK.int IntKind.u8, CK.int IntKind.u8, CK.int IntKind.u8, CK.int IntKind.u8, CK.int IntKind.u8, CK.int IntKind.u8, CK.int IntKind.u8, CK.int IntKind.u8, CK.int IntKind.u8, CK.int IntKind.u8, CK.int IntKind.u8, CK.int IntKind.u8, CK.int IntKind.u8, CK.int IntKind.u8, CK.int IntKind.u8, CK.int IntKind.u8, CK.int IntKind.u8, CK.int IntKind.u8, CK.int IntKind.u8, CK.int IntKind.u8, CK.int IntKind.u8, CK.int IntKind.u8, CK.int IntKind.u8, CK.int IntKind.u8, CK.int IntKind.u8, CK.int IntKind.u8, CK.int IntKind.u8, CK.int IntKind.u8, CK.int IntKind.u8, CK.int IntKind.u8, CK.int IntKind.u8, CK.int IntKind.u8, CK.int IntKind.u8, CK.int IntKind.u8, CK.int IntKind.u8, CK.int IntKind.u8, CK.int IntKind.u8, CK.int IntKind.u8, CK.int IntKind.u8, CK.int IntKind.u8, CK.int IntKind.u8, CK.int IntKind.u8, CK.int IntKind.u8, CK.int IntKind.u8, CK.int IntKind.u8, CK.int IntKind.u8, CK.int IntKind.u8]), some (TI.mk (TypeDesc.func (Array.mk []) (Array.mk [9]) false) 1 8 [AV.nilf] true false [CK.other]), some (TI.mk (TypeDesc.struct (Array.mk [Field.mk "_interface" 17 0 false "" "runtime" 0, Field.mk "concrete" 17 1 false "" "runtime" 8, Field.mk "asserted" 17 2 false "" "runtime" 16, Field.mk "missingMethod" 9 3 false "" "runtime" 24])) 4 40 [AV.nilp, AV.nilp, AV.nilp, AV.str (ByteArray.mk (Array.mk []))] false true [CK.other, CK.other, CK.other, CK.str]), some (TI.mk (TypeDesc.struct (Array.mk [Field.mk "_interface" 17 0 false "" "runtime" 0, Field.mk "concrete" 17 1 false "" "runtime" 8, Field.mk "asserted" 17 2 false "" "runtime" 16, Field.mk "missingMethod" 9 3 false "" "runtime" 24])) 4 40 [AV.nilp, AV.nilp, AV.nilp, AV.str (ByteArray.mk (Array.mk []))] false true [CK.other, CK.other, CK.other, CK.str]), some (TI.mk (TypeDesc.array 0 16) 0 0 [] true true []), some (TI.mk (TypeDesc.struct (Array.mk [Field.mk "_" 154 0 false "" "runtime" 0])) 0 0 [] false true []), some (TI.mk (TypeDesc.struct (Array.mk [Field.mk "_" 154 0 false "" "runtime" 0])) 0 0 [] false true []), some (TI.mk (TypeDesc.int IntKind.u8) 1 1 [AV.int IntKind.u8 0] true true [CK.int IntKind.u8]), some (TI.mk (TypeDesc.int IntKind.u8) 1 1 [AV.int IntKind.u8 0] true true [CK.int IntKind.u8]), some (TI.mk (TypeDesc.func (Array.mk [165, 165]) (Array.mk [4]) false) 1 8 [AV.nilf] true false [CK.other]), some (TI.mk (TypeDesc.pointer 5) 1 8 [AV.nilp] true true [CK.other]), some (TI.mk (TypeDesc.int IntKind.i32) 1 4 [AV.int IntKind.i32 0] true true [CK.int IntKind.i32]), some (TI.mk (TypeDesc.int IntKind.i32) 1 4 [AV.int IntKind.i32 0] true true [CK.int IntKind.i32]), some (TI.mk (TypeDesc.struct (Array.mk [Field.mk "Size_" 12 0 false "" "" 0, Field.mk "PtrBytes" 12 1 false "" "" 8, Field.mk "Hash" 111 2 false "" "" 16, Field.mk "TFlag" 157 3 false "" "" 20, Field.mk "Align_" 5 4 false "" "" 21, Field.mk "FieldAlign_" 5 5 false "" "" 22, Field.mk "Kind_" 158 6 false "" "" 23, Field.mk "Equal" 159 7 false "" "" 24, Field.mk "GCData" 160 8 false "" "" 32, Field.mk "Str" 161 9 false "" "" 40, Field.mk "PtrToThis" 162 10 false "" "" 44])) 11 48 [AV.int IntKind.u64 0, AV.int IntKind.u64 0, AV.int IntKind.u32 0, AV.int IntKind.u8 0, AV.int IntKind.u8 0, AV.int IntKind.u8 0, AV.int IntKind.u8 0, AV.nilf, AV.nilp, AV.int IntKind.i32 0, AV.int IntKind.i32 0] false false [CK.int IntKind.u64, CK.int IntKind.u64, CK.int IntKind.u32, CK.int IntKind.u8, CK.int IntKind.u8, CK.int IntKind.u8, CK.int IntKind.u8, CK.other, CK.other, CK.int IntKind.i32, CK.int IntKind.i32]), some (TI.mk (TypeDesc.struct (Array.mk [Field.mk "Size_" 12 0 false "" "" 0, Field.mk "PtrBytes" 12 1 false "" "" 8, Field.mk "Hash" 111 2 false "" "" 16, Field.mk "TFlag" 157 3 false "" "" 20, Field.mk "Align_" 5 4 false "" "" 21, Field.mk "FieldAlign_" 5 5 false "" "" 22, Field.mk "Kind_" 158 6 false "" "" 23, Field.mk "Equal" 159 7 false "" "" 24, Field.mk "GCData" 160 8 false "" "" 32, Field.mk "Str" 161 9 false "" "" 40, Field.mk "PtrToThis" 162 10 false "" "" 44])) 11 48 [AV.int IntKind.u64 0, AV.int IntKind.u64 0, AV.int IntKind.u32 0, AV.int IntKind.u8 0, AV.int IntKind.u8 0, AV.int IntKind.u8 0, AV.int IntKind.u8 0, AV.nilf, AV.nilp, AV.int IntKind.i32 0, AV.int IntKind.i32 0] false false [CK.int IntKind.u64, CK.int IntKind.u64, CK.int IntKind.u32, CK.int IntKind.u8, CK.int IntKind.u8, CK.int IntKind.u8, CK.int IntKind.u8, CK.other, CK.other, CK.int IntKind.i32, CK.int IntKind.i32]), some (TI.mk TypeDesc.unsafePointer 1 8 [AV.nilp] true true [CK.other])]
theorem E_ok : EnvOK Tryd.prog E := (show E = envOf Tryd.prog by kernel_rfl) ▸ envOf_ok _
theorem E_flds : FieldsOK E := fieldsB_ok (by kernel_rfl)
theorem mixed : Tryd.prog.follows .mixedOrders = true := by kernel_rfl
/-- ferryman/mapping.suffix -/
noncomputable def T33 : List (FuncId × FSpec) := []
theorem T33_ok : TabOK Tryd.prog T33 := TabOK.nil _
noncomputable def C33 : Ctx := (ctx E T33 [] [(0, [1]), (1, [1, 4]), (2, [2, 3])] [] 15 70)
theorem C33_ok : CtxOK Tryd.prog C33 := ctx_ok E_ok E_flds mixed T33_ok
noncomputable def S33 : FSpec := inlineK C33 Tryd.f33
theorem S33_ok : SpecOK Tryd.prog 33 S33 := inlineK_ok C33_ok Tryd.func33 (fun _ _ => LoopsOK.none _)
theorem En33 : Enters Tryd.prog 33 := ⟨_, Tryd.func33, by decide, rfl⟩

/-- ferryman/addr.low -/
noncomputable def T65 : List (FuncId × FSpec) := []
theorem T65_ok : TabOK Tryd.prog T65 := TabOK.nil _
noncomputable def L65_2 : ATs → AH → KC → Res := fun ts H k => match ts, H with
  | [(0, .fs 1 xs fl), (5, .int .i64 i)], [] => aIf (intsB .u8 xs && decide (xs.length ≤ 1000000) && decide (0 ≤ i) && decide (i ≤ 8 * (xs.length : Int))) (aIf (lowB xs i.toNat) (k (.exit 0) [(0, .fs 1 xs fl), (5, .int .i64 ((8 * xs.length : Nat) : Int)), (11, .bool false)] []) (k .ret [(4, .bool false)] [])) none
  | _, _ => none
noncomputable def C65 : Ctx := (ctx E T65 [(2, L65_2)] [(0, [0, 1]), (1, [0, 5]), (2, [0, 5, 11]), (3, [0, 5]), (4, [0, 5, 24]), (5, [4]), (6, [4]), (1000002, [0, 5])] [] 25 70)
theorem C65_ok : CtxOK Tryd.prog C65 := ctx_ok E_ok E_flds mixed T65_ok
theorem C65_l0 : C65.loop (loopId (loopB Tryd.f65 0)) = some L65_2 := by kernel_rfl
theorem L65_2_in : LoopsOK C65 (loopB Tryd.f65 0) := LoopsOK.within 0 (by kernel_rfl) (fun j hj S hS => by
  omega)
theorem M65_2a (xs : List AV) (fl : SF) (i : Int) (k : KC) : headedK C65 (loopB Tryd.f65 0) [(0, .fs 1 xs fl), (5, .int .i64 i)] [] k =
  aIf (decide (i < IntKind.i64.wrap (8 * (↑xs.length : Int)))) (aIf (decide (0 ≤ IntKind.i64.wrap (i.tdiv 8))) (aIf (decide (IntKind.i64.wrap (i.tdiv 8) < (↑xs.length : Int))) (aIf ((xs.getD (IntKind.i64.wrap (i.tdiv 8)).toNat AV.junk).cells.length == 1) (aIf (([(xs.getD (IntKind.i64.wrap (i.tdiv 8)).toNat AV.junk).cells.getD 0 AV.junk].getD 0 AV.junk).isInt IntKind.u8) (aIf (decide (IntKind.i64.wrap (7 - i.tmod 8) < 0)) none (aIf (IntKind.u8.wrap (↑(BitVec.ofInt 8 (([(xs.getD (IntKind.i64.wrap (i.tdiv 8)).toNat AV.junk).cells.getD 0 AV.junk].getD 0 AV.junk).toInt.fdiv (2 ^ min (IntKind.i64.wrap (7 - i.tmod 8)).toNat 8)) &&& BitVec.ofInt 8 1).toNat : Int) != 0) (k AExit.ret [(4, AV.bool false)] []) (k AExit.normal [(0, AV.fs 1 xs fl), (5, AV.int IntKind.i64 (IntKind.i64.wrap (i + 1)))] []))) none) none) none) none) (k (AExit.exit 0) [(0, AV.fs 1 xs fl), (5, AV.int IntKind.i64 i), (11, AV.bool (decide (i < IntKind.i64.wrap (8 * (↑xs.length : Int)))))] []) := by kernel_rfl
theorem L65_2_ok : LoopSum C65 (loopB Tryd.f65 0) L65_2 := LoopSum.of C65_ok L65_2_in (fun ts H => by
  unfold L65_2
  split
  · rename_i xs fl i
    rcases Bool.eq_false_or_eq_true (intsB .u8 xs && decide (xs.length ≤ 1000000) && decide (0 ≤ i) && decide (i ≤ 8 * (xs.length : Int))) with hp | hp
    · refine .inr ?_
      simp only [aIf_pos hp]
      simp only [Bool.and_eq_true, decide_eq_true_eq] at hp
      obtain ⟨⟨⟨hu, hL⟩, h0⟩, h1⟩ := hp
      obtain ⟨i, rfl⟩ := Int.eq_ofNat_of_zero_le h0
      have key : ∀ j : Nat, j < 8 * xs.length → ∀ k, headedK C65 (loopB Tryd.f65 0) [(0, .fs 1 xs fl), (5, .int .i64 (j : Int))] [] k = aIf (bitV xs j == 1) (k .ret [(4, .bool false)] []) (k .normal [(0, .fs 1 xs fl), (5, .int .i64 ((j + 1 : Nat) : Int))] []) := by
        intro j hj k
        obtain ⟨x, hx, he⟩ := u8_get hu (j / 8) (by omega)
        rw [M65_2a]
        simp only [wrap8 hL, dlt hj, div8 (show j < 9223372036854775808 by omega), sh7 j, dlt (show j / 8 < xs.length by omega), show min (7 - j % 8) 8 = 7 - j % 8 by omega, bit8 hx (show 7 - j % 8 < 8 by omega), bitNe he, he, i64s (show j + 1 < 9223372036854775808 by omega), Int.toNat_natCast, Nat.zero_add, Nat.mul_one, Int.one_mul, AV.cells, List.length_cons, List.length_nil, List.getD_cons_zero, Nat.reduceAdd, isInt_self, AV.toInt, beq_self_eq_true, dnn, dnn', aIf_true, aIf_false, shr_eq]
      rw [Int.toNat_natCast]
      exact (iter_scan (N := 8 * xs.length) (ts := fun j => [(0, .fs 1 xs fl), (5, .int .i64 (j : Int))]) (H := []) (b := fun j => bitV xs j == 1) (fun j hj hb k => (key j hj k).trans (aIf_pos hb)) (fun j hj hb k => (key j hj k).trans (aIf_neg hb))
        (fun k => by rw [M65_2a, wrap8 hL, dltf]; rfl) (by intro h; cases h) (by intro h; cases h) (8 * xs.length - i) i (by omega)).imp fun m hm k => (hm k).symm
    · exact .inl fun k => by rw [aIf_neg hp]
  · exact .inl fun k => rfl)
theorem C65_loops : ∀ c, Tryd.f65.body = some c → LoopsOK C65 c := LoopsOK.of 1 (by kernel_rfl) (fun j hj S hS => by
  match j, hj with
  | 0, _ => rw [C65_l0] at hS; cases hS; exact L65_2_ok
  | n + 1, hj => omega)
noncomputable def S65 : FSpec := inlineK C65 Tryd.f65
theorem S65_ok : SpecOK Tryd.prog 65 S65 := inlineK_ok C65_ok Tryd.func65 C65_loops
theorem En65 : Enters Tryd.prog 65 := ⟨_, Tryd.func65, by decide, rfl⟩
noncomputable def R65 (args : List AV) : Res := S65 args [] encK
noncomputable def V65 : FSpec := leafK (.bool) R65
theorem V65_ok : SpecOK Tryd.prog 65 V65 := leafK_ok S65_ok (fun _ => rfl)
theorem N65 (xs : List AV) (fl : SF) (i : Int) : S65 [.fs 1 xs fl, .int .i64 i] [] encK =
  aIf (intsB IntKind.u8 xs && decide (xs.length ≤ 1000000) && decide (0 ≤ i) && decide (i ≤ 8 * (↑xs.length : Int))) (aIf (Pl.lowB xs i.toNat) (some (AEnd.ret (AV.bool true), [])) (some (AEnd.ret (AV.bool false), []))) none := by kernel_rfl
theorem R65_is {xs : List AV} {fl : SF} {i : Int} (hu : intsB .u8 xs = true) (hL : xs.length ≤ 1000000) (h0 : 0 ≤ i) (h1 : i ≤ 8 * (xs.length : Int)) : R65 [.fs 1 xs fl, .int .i64 i] = some (.ret (.bool (lowB xs i.toNat)), []) := by
  show S65 _ [] encK = _
  rw [N65, hu, decide_eq_true hL, decide_eq_true h0, decide_eq_true h1]
  cases lowB xs i.toNat <;> rfl

/-- ferryman/addr.Check6 -/
noncomputable def T42 : List (FuncId × FSpec) := [(65, V65)]
theorem T42_ok : TabOK Tryd.prog T42 := TabOK.cons En65 V65_ok (TabOK.nil _)
noncomputable def C42 : Ctx := (ctx E T42 [] [(0, [1]), (1, [18]), (2, [2]), (3, [2])] [1000065] 19 70)
theorem C42_ok : CtxOK Tryd.prog C42 := ctx_ok E_ok E_flds mixed T42_ok
noncomputable def S42 : FSpec := inlineK C42 Tryd.f42
theorem S42_ok : SpecOK Tryd.prog 42 S42 := inlineK_ok C42_ok Tryd.func42 (fun _ _ => LoopsOK.none _)
theorem En42 : Enters Tryd.prog 42 := ⟨_, Tryd.func42, by decide, rfl⟩
noncomputable def R42 (args : List AV) : Res := S42 args [] encK
noncomputable def V42 : FSpec := leafK (.int .i64) R42
theorem V42_ok : SpecOK Tryd.prog 42 V42 := leafK_ok S42_ok (fun _ => rfl)
theorem N42 (x : Nat → Int) (n : Int) : S42 [.agg [.int .u8 (x 0), .int .u8 (x 1), .int .u8 (x 2), .int .u8 (x 3), .int .u8 (x 4), .int .u8 (x 5), .int .u8 (x 6), .int .u8 (x 7), .int .u8 (x 8), .int .u8 (x 9), .int .u8 (x 10), .int .u8 (x 11), .int .u8 (x 12), .int .u8 (x 13), .int .u8 (x 14), .int .u8 (x 15), .int .i64 n]] [] encK =
  aIf (decide (n < 0)) (some (AEnd.ret (AV.int IntKind.i64 22), [])) (aIf (decide (n > 128)) (some (AEnd.ret (AV.int IntKind.i64 22), [])) (aIf (shOK Sh.bool (R65 [AV.fs 1 [AV.int IntKind.u8 (x 0), AV.int IntKind.u8 (x 1), AV.int IntKind.u8 (x 2), AV.int IntKind.u8 (x 3), AV.int IntKind.u8 (x 4), AV.int IntKind.u8 (x 5), AV.int IntKind.u8 (x 6), AV.int IntKind.u8 (x 7), AV.int IntKind.u8 (x 8), AV.int IntKind.u8 (x 9), AV.int IntKind.u8 (x 10), AV.int IntKind.u8 (x 11), AV.int IntKind.u8 (x 12), AV.int IntKind.u8 (x 13), AV.int IntKind.u8 (x 14), AV.int IntKind.u8 (x 15)] SF.any, AV.int IntKind.i64 n])) (aIf (!(sel (R65 [AV.fs 1 [AV.int IntKind.u8 (x 0), AV.int IntKind.u8 (x 1), AV.int IntKind.u8 (x 2), AV.int IntKind.u8 (x 3), AV.int IntKind.u8 (x 4), AV.int IntKind.u8 (x 5), AV.int IntKind.u8 (x 6), AV.int IntKind.u8 (x 7), AV.int IntKind.u8 (x 8), AV.int IntKind.u8 (x 9), AV.int IntKind.u8 (x 10), AV.int IntKind.u8 (x 11), AV.int IntKind.u8 (x 12), AV.int IntKind.u8 (x 13), AV.int IntKind.u8 (x 14), AV.int IntKind.u8 (x 15)] SF.any, AV.int IntKind.i64 n]) []).toBool) (some (AEnd.ret (AV.int IntKind.i64 22), [])) (some (AEnd.ret (AV.int IntKind.i64 0), []))) none)) := by kernel_rfl
theorem R42_is {x : Nat → Int} {n : Int} (hx : b8 x) : R42 [.agg [.int .u8 (x 0), .int .u8 (x 1), .int .u8 (x 2), .int .u8 (x 3), .int .u8 (x 4), .int .u8 (x 5), .int .u8 (x 6), .int .u8 (x 7), .int .u8 (x 8), .int .u8 (x 9), .int .u8 (x 10), .int .u8 (x 11), .int .u8 (x 12), .int .u8 (x 13), .int .u8 (x 14), .int .u8 (x 15), .int .i64 n]] = some (.ret (.int .i64 (chkE 128 [.int .u8 (x 0), .int .u8 (x 1), .int .u8 (x 2), .int .u8 (x 3), .int .u8 (x 4), .int .u8 (x 5), .int .u8 (x 6), .int .u8 (x 7), .int .u8 (x 8), .int .u8 (x 9), .int .u8 (x 10), .int .u8 (x 11), .int .u8 (x 12), .int .u8 (x 13), .int .u8 (x 14), .int .u8 (x 15)] n)), []) := by
  show S42 _ [] encK = _
  have ti : ∀ k n, (AV.int k n).toInt = n := fun _ _ => rfl
  have tb : ∀ b, (AV.bool b).toBool = b := fun _ => rfl
  have si : ∀ k n, sel (some (AEnd.ret (AV.int k n), [])) [] = .int k n := fun _ _ => rfl
  have sb : ∀ b, sel (some (AEnd.ret (AV.bool b), [])) [] = .bool b := fun _ => rfl
  rw [N42]
  unfold chkE
  cases h1 : decide (n < 0)
  · cases h2 : decide (n > 128)
    · have g1 := of_decide_eq_false h1
      have g2 := of_decide_eq_false h2
      have e := R65_is (fl := .any) (b8_16 hx) (show 16 ≤ 1000000 by decide) (i := n) (by omega) (show n ≤ 8 * ((16 : Nat) : Int) by omega)
      simp only [e, shOK_ret, has_bool, sb, tb, aIf_true, aIf_false, cond_false]
      cases lowB [.int .u8 (x 0), .int .u8 (x 1), .int .u8 (x 2), .int .u8 (x 3), .int .u8 (x 4), .int .u8 (x 5), .int .u8 (x 6), .int .u8 (x 7), .int .u8 (x 8), .int .u8 (x 9), .int .u8 (x 10), .int .u8 (x 11), .int .u8 (x 12), .int .u8 (x 13), .int .u8 (x 14), .int .u8 (x 15)] n.toNat <;> rfl
    · rfl
  · rfl

/-- ferryman/addr.Check4 -/
noncomputable def T43 : List (FuncId × FSpec) := [(65, V65)]
theorem T43_ok : TabOK Tryd.prog T43 := TabOK.cons En65 V65_ok (TabOK.nil _)
noncomputable def C43 : Ctx := (ctx E T43 [] [(0, [1]), (1, [18]), (2, [2]), (3, [2])] [1000065] 19 70)
theorem C43_ok : CtxOK Tryd.prog C43 := ctx_ok E_ok E_flds mixed T43_ok
noncomputable def S43 : FSpec := inlineK C43 Tryd.f43
theorem S43_ok : SpecOK Tryd.prog 43 S43 := inlineK_ok C43_ok Tryd.func43 (fun _ _ => LoopsOK.none _)
theorem En43 : Enters Tryd.prog 43 := ⟨_, Tryd.func43, by decide, rfl⟩
noncomputable def R43 (args : List AV) : Res := S43 args [] encK
noncomputable def V43 : FSpec := leafK (.int .i64) R43
theorem V43_ok : SpecOK Tryd.prog 43 V43 := leafK_ok S43_ok (fun _ => rfl)
theorem N43 (x : Nat → Int) (n : Int) : S43 [.agg [.int .u8 (x 0), .int .u8 (x 1), .int .u8 (x 2), .int .u8 (x 3), .int .i64 n]] [] encK =
  aIf (decide (n < 0)) (some (AEnd.ret (AV.int IntKind.i64 22), [])) (aIf (decide (n > 32)) (some (AEnd.ret (AV.int IntKind.i64 22), [])) (aIf (shOK Sh.bool (R65 [AV.fs 1 [AV.int IntKind.u8 (x 0), AV.int IntKind.u8 (x 1), AV.int IntKind.u8 (x 2), AV.int IntKind.u8 (x 3)] SF.any, AV.int IntKind.i64 n])) (aIf (!(sel (R65 [AV.fs 1 [AV.int IntKind.u8 (x 0), AV.int IntKind.u8 (x 1), AV.int IntKind.u8 (x 2), AV.int IntKind.u8 (x 3)] SF.any, AV.int IntKind.i64 n]) []).toBool) (some (AEnd.ret (AV.int IntKind.i64 22), [])) (some (AEnd.ret (AV.int IntKind.i64 0), []))) none)) := by kernel_rfl
theorem R43_is {x : Nat → Int} {n : Int} (hx : b8 x) : R43 [.agg [.int .u8 (x 0), .int .u8 (x 1), .int .u8 (x 2), .int .u8 (x 3), .int .i64 n]] = some (.ret (.int .i64 (chkE 32 [.int .u8 (x 0), .int .u8 (x 1), .int .u8 (x 2), .int .u8 (x 3)] n)), []) := by
  show S43 _ [] encK = _
  have ti : ∀ k n, (AV.int k n).toInt = n := fun _ _ => rfl
  have tb : ∀ b, (AV.bool b).toBool = b := fun _ => rfl
  have si : ∀ k n, sel (some (AEnd.ret (AV.int k n), [])) [] = .int k n := fun _ _ => rfl
  have sb : ∀ b, sel (some (AEnd.ret (AV.bool b), [])) [] = .bool b := fun _ => rfl
  rw [N43]
  unfold chkE
  cases h1 : decide (n < 0)
  · cases h2 : decide (n > 32)
    · have g1 := of_decide_eq_false h1
      have g2 := of_decide_eq_false h2
      have e := R65_is (fl := .any) (b8_4 hx) (show 4 ≤ 1000000 by decide) (i := n) (by omega) (show n ≤ 8 * ((4 : Nat) : Int) by omega)
      simp only [e, shOK_ret, has_bool, sb, tb, aIf_true, aIf_false, cond_false]
      cases lowB [.int .u8 (x 0), .int .u8 (x 1), .int .u8 (x 2), .int .u8 (x 3)] n.toNat <;> rfl
    · rfl
  · rfl

/-- ferryman/mapping.Check -/
noncomputable def T17 : List (FuncId × FSpec) := [(33, S33), (42, V42), (43, V43)]
theorem T17_ok : TabOK Tryd.prog T17 := TabOK.cons En33 S33_ok (TabOK.cons En42 V42_ok (TabOK.cons En43 V43_ok (TabOK.nil _)))
noncomputable def C17 : Ctx := (ctx E T17 [] [(0, [1]), (1, [1, 14]), (2, [2]), (3, [1, 41]), (4, [2]), (5, [1, 4]), (6, [51]), (7, [2]), (8, [2])] [] 52 70)
theorem C17_ok : CtxOK Tryd.prog C17 := ctx_ok E_ok E_flds mixed T17_ok
noncomputable def S17 : FSpec := inlineK C17 Tryd.f17
theorem S17_ok : SpecOK Tryd.prog 17 S17 := inlineK_ok C17_ok Tryd.func17 (fun _ _ => LoopsOK.none _)
theorem En17 : Enters Tryd.prog 17 := ⟨_, Tryd.func17, by decide, rfl⟩
noncomputable def R17 (args : List AV) : Res := S17 args [] encK
noncomputable def V17 : FSpec := leafK (.int .i64) R17
theorem V17_ok : SpecOK Tryd.prog 17 V17 := leafK_ok S17_ok (fun _ => rfl)
theorem N17 (x z : Nat → Int) (n m e o : Int) (f : Bool) : S17 [.agg [.int .u8 (x 0), .int .u8 (x 1), .int .u8 (x 2), .int .u8 (x 3), .int .u8 (x 4), .int .u8 (x 5), .int .u8 (x 6), .int .u8 (x 7), .int .u8 (x 8), .int .u8 (x 9), .int .u8 (x 10), .int .u8 (x 11), .int .u8 (x 12), .int .u8 (x 13), .int .u8 (x 14), .int .u8 (x 15), .int .i64 n, .int .u8 (z 0), .int .u8 (z 1), .int .u8 (z 2), .int .u8 (z 3), .int .i64 m, .int .i64 e, .int .i64 o, .bool f]] [] encK =
  aIf (shOK (Sh.int IntKind.i64) (R42 [AV.agg [AV.int IntKind.u8 (x 0), AV.int IntKind.u8 (x 1), AV.int IntKind.u8 (x 2), AV.int IntKind.u8 (x 3), AV.int IntKind.u8 (x 4), AV.int IntKind.u8 (x 5), AV.int IntKind.u8 (x 6), AV.int IntKind.u8 (x 7), AV.int IntKind.u8 (x 8), AV.int IntKind.u8 (x 9), AV.int IntKind.u8 (x 10), AV.int IntKind.u8 (x 11), AV.int IntKind.u8 (x 12), AV.int IntKind.u8 (x 13), AV.int IntKind.u8 (x 14), AV.int IntKind.u8 (x 15), AV.int IntKind.i64 n]])) (aIf ((sel (R42 [AV.agg [AV.int IntKind.u8 (x 0), AV.int IntKind.u8 (x 1), AV.int IntKind.u8 (x 2), AV.int IntKind.u8 (x 3), AV.int IntKind.u8 (x 4), AV.int IntKind.u8 (x 5), AV.int IntKind.u8 (x 6), AV.int IntKind.u8 (x 7), AV.int IntKind.u8 (x 8), AV.int IntKind.u8 (x 9), AV.int IntKind.u8 (x 10), AV.int IntKind.u8 (x 11), AV.int IntKind.u8 (x 12), AV.int IntKind.u8 (x 13), AV.int IntKind.u8 (x 14), AV.int IntKind.u8 (x 15), AV.int IntKind.i64 n]]) []).toInt != 0) (some (AEnd.ret (AV.int IntKind.i64 22), [])) (aIf (shOK (Sh.int IntKind.i64) (R43 [AV.agg [AV.int IntKind.u8 (z 0), AV.int IntKind.u8 (z 1), AV.int IntKind.u8 (z 2), AV.int IntKind.u8 (z 3), AV.int IntKind.i64 m]])) (aIf ((sel (R43 [AV.agg [AV.int IntKind.u8 (z 0), AV.int IntKind.u8 (z 1), AV.int IntKind.u8 (z 2), AV.int IntKind.u8 (z 3), AV.int IntKind.i64 m]]) []).toInt != 0) (some (AEnd.ret (AV.int IntKind.i64 22), [])) (aIf (decide (e < 0)) (some (AEnd.ret (AV.int IntKind.i64 100), [])) (aIf (decide (e > 48)) (some (AEnd.ret (AV.int IntKind.i64 100), [])) (aIf (decide (n > IntKind.i64.wrap (64 - e))) (some (AEnd.ret (AV.int IntKind.i64 100), [])) (aIf (decide (o < 0)) (some (AEnd.ret (AV.int IntKind.i64 100), [])) (aIf (decide (o > 15)) (some (AEnd.ret (AV.int IntKind.i64 100), [])) (aIf (decide ((if IntKind.i64.wrap (e - IntKind.i64.wrap (32 - m)) > 0 then IntKind.i64.wrap (e - IntKind.i64.wrap (32 - m)) else 0) > IntKind.i64.wrap (16 - o))) (some (AEnd.ret (AV.int IntKind.i64 100), [])) (some (AEnd.ret (AV.int IntKind.i64 0), []))))))))) none)) none := by kernel_rfl
theorem R17_is {x z : Nat → Int} {n m e o : Int} {f : Bool} (hx : b8 x) (hz : b8 z) : R17 [.agg [.int .u8 (x 0), .int .u8 (x 1), .int .u8 (x 2), .int .u8 (x 3), .int .u8 (x 4), .int .u8 (x 5), .int .u8 (x 6), .int .u8 (x 7), .int .u8 (x 8), .int .u8 (x 9), .int .u8 (x 10), .int .u8 (x 11), .int .u8 (x 12), .int .u8 (x 13), .int .u8 (x 14), .int .u8 (x 15), .int .i64 n, .int .u8 (z 0), .int .u8 (z 1), .int .u8 (z 2), .int .u8 (z 3), .int .i64 m, .int .i64 e, .int .i64 o, .bool f]] = some (.ret (.int .i64 (chkR [.int .u8 (x 0), .int .u8 (x 1), .int .u8 (x 2), .int .u8 (x 3), .int .u8 (x 4), .int .u8 (x 5), .int .u8 (x 6), .int .u8 (x 7), .int .u8 (x 8), .int .u8 (x 9), .int .u8 (x 10), .int .u8 (x 11), .int .u8 (x 12), .int .u8 (x 13), .int .u8 (x 14), .int .u8 (x 15)] [.int .u8 (z 0), .int .u8 (z 1), .int .u8 (z 2), .int .u8 (z 3)] n m e o)), []) := by
  show S17 _ [] encK = _
  have ti : ∀ k n, (AV.int k n).toInt = n := fun _ _ => rfl
  have tb : ∀ b, (AV.bool b).toBool = b := fun _ => rfl
  have si : ∀ k n, sel (some (AEnd.ret (AV.int k n), [])) [] = .int k n := fun _ _ => rfl
  have sb : ∀ b, sel (some (AEnd.ret (AV.bool b), [])) [] = .bool b := fun _ => rfl
  rw [N17, R42_is hx, R43_is hz]
  simp only [shOK_ret, has_int, chkE_in, si, ti, aIf_true]
  unfold chkR
  rcases chkE_or 128 [.int .u8 (x 0), .int .u8 (x 1), .int .u8 (x 2), .int .u8 (x 3), .int .u8 (x 4), .int .u8 (x 5), .int .u8 (x 6), .int .u8 (x 7), .int .u8 (x 8), .int .u8 (x 9), .int .u8 (x 10), .int .u8 (x 11), .int .u8 (x 12), .int .u8 (x 13), .int .u8 (x 14), .int .u8 (x 15)] n with ⟨h1, a1, a2, a3⟩ | h1
  · rcases chkE_or 32 [.int .u8 (z 0), .int .u8 (z 1), .int .u8 (z 2), .int .u8 (z 3)] m with ⟨h2, b1, b2, b3⟩ | h2
    · rw [h1, h2, aIf_neg (b := ((0 : Int) != 0)) rfl, aIf_neg (b := ((0 : Int) != 0)) rfl, chk_tail ⟨a1, a2⟩ ⟨b1, b2⟩]
      cases ruleB n m e o <;> rfl
    · rw [h1, h2]; rfl
  · rw [h1]; rfl

/-- ferryman/field.there -/
noncomputable def T57 : List (FuncId × FSpec) := []
theorem T57_ok : TabOK Tryd.prog T57 := TabOK.nil _
noncomputable def C57 : Ctx := (ctx E T57 [] [(0, [0, 1, 2]), (1, [6])] [] 29 70)
theorem C57_ok : CtxOK Tryd.prog C57 := ctx_ok E_ok E_flds mixed T57_ok
noncomputable def S57 : FSpec := inlineK C57 Tryd.f57
theorem S57_ok : SpecOK Tryd.prog 57 S57 := inlineK_ok C57_ok Tryd.func57 (fun _ _ => LoopsOK.none _)
theorem En57 : Enters Tryd.prog 57 := ⟨_, Tryd.func57, by decide, rfl⟩
noncomputable def R57 (args : List AV) : Res := S57 args [] encK
noncomputable def V57 : FSpec := leafK (.bool) R57
theorem V57_ok : SpecOK Tryd.prog 57 V57 := leafK_ok S57_ok (fun _ => rfl)
theorem N57 (xs : List AV) (fl : SF) (a n : Int) : S57 [.fs 1 xs fl, .int .i64 a, .int .i64 n] [] encK =
  aIf (decide (a ≥ 0)) (aIf (decide (n ≥ 0)) (aIf (decide (n ≤ IntKind.i64.wrap (8 * (↑xs.length : Int)))) (some (AEnd.ret (AV.bool (decide (a ≤ IntKind.i64.wrap (IntKind.i64.wrap (8 * (↑xs.length : Int)) - n)))), [])) (some (AEnd.ret (AV.bool false), []))) (some (AEnd.ret (AV.bool false), []))) (some (AEnd.ret (AV.bool false), [])) := by kernel_rfl
theorem R57_is {xs : List AV} {fl : SF} {a n : Int} (hL : xs.length ≤ 1000000) : R57 [.fs 1 xs fl, .int .i64 a, .int .i64 n] = some (.ret (.bool (thereB xs.length a n)), []) := by
  show S57 _ [] encK = _
  rw [N57]
  exact there_law hL (fun b => some (.ret (.bool b), []))

/-- ferryman/field.bit -/
noncomputable def T58 : List (FuncId × FSpec) := []
theorem T58_ok : TabOK Tryd.prog T58 := TabOK.nil _
noncomputable def C58 : Ctx := (ctx E T58 [] [(0, [0, 1]), (1, [4])] [] 16 70)
theorem C58_ok : CtxOK Tryd.prog C58 := ctx_ok E_ok E_flds mixed T58_ok
noncomputable def S58 : FSpec := inlineK C58 Tryd.f58
theorem S58_ok : SpecOK Tryd.prog 58 S58 := inlineK_ok C58_ok Tryd.func58 (fun _ _ => LoopsOK.none _)
theorem En58 : Enters Tryd.prog 58 := ⟨_, Tryd.func58, by decide, rfl⟩
noncomputable def R58 (args : List AV) : Res := S58 args [] encK
noncomputable def V58 : FSpec := leafK (.int .u64) R58
theorem V58_ok : SpecOK Tryd.prog 58 V58 := leafK_ok S58_ok (fun _ => rfl)
theorem N58 (xs : List AV) (fl : SF) (i : Int) : S58 [.fs 1 xs fl, .int .i64 i] [] encK =
  aIf (decide (0 ≤ IntKind.i64.wrap (i.tdiv 8))) (aIf (decide (IntKind.i64.wrap (i.tdiv 8) < (↑xs.length : Int))) (aIf ((xs.getD (IntKind.i64.wrap (i.tdiv 8)).toNat AV.junk).cells.length == 1) (aIf (([(xs.getD (IntKind.i64.wrap (i.tdiv 8)).toNat AV.junk).cells.getD 0 AV.junk].getD 0 AV.junk).isInt IntKind.u8) (aIf (decide (IntKind.i64.wrap (7 - i.tmod 8) < 0)) none (some (AEnd.ret (AV.int IntKind.u64 (IntKind.u64.wrap (↑(BitVec.ofInt 64 (IntKind.u64.wrap (([(xs.getD (IntKind.i64.wrap (i.tdiv 8)).toNat AV.junk).cells.getD 0 AV.junk].getD 0 AV.junk).toInt.fdiv (2 ^ min (IntKind.i64.wrap (7 - i.tmod 8)).toNat 8))) &&& BitVec.ofInt 64 1).toNat : Int))), []))) none) none) none) none := by kernel_rfl
theorem R58_is {xs : List AV} {fl : SF} {j : Nat} (hu : intsB .u8 xs = true) (hL : xs.length ≤ 1000000) (hj : j < 8 * xs.length) : R58 [.fs 1 xs fl, .int .i64 (j : Int)] = some (.ret (.int .u64 (bitV xs j)), []) := by
  show S58 _ [] encK = _
  obtain ⟨x, hx, he⟩ := u8_get hu (j / 8) (by omega)
  have e1 : IntKind.i64.wrap ((j : Int).tdiv 8) = ((j / 8 : Nat) : Int) := div8 (by omega)
  have e2 := sh7 j
  have e3 : min (7 - j % 8) 8 = 7 - j % 8 := by omega
  have e4 : decide (((j / 8 : Nat) : Int) < (xs.length : Int)) = true := decide_eq_true (by omega)
  have r := shr_byte hx (7 - j % 8)
  have e6 : IntKind.u64.wrap ((x : Int) / 2 ^ (7 - j % 8)) = (x : Int) / 2 ^ (7 - j % 8) := u64n (by omega) (by omega)
  rw [N58]
  simp only [e1, e2, e3, e4, dnn, dnn', Int.toNat_natCast, he, AV.cells, List.length_singleton, List.getD_cons_zero, isInt_self, beq_self_eq_true, aIf_true, aIf_false, AV.toInt, shr_eq, e6, and1 (u := (x : Int) / 2 ^ (7 - j % 8)) (by omega) (by omega), u64n (x := (x : Int) / 2 ^ (7 - j % 8) % 2) (by omega) (by omega), bitV]
theorem bit_shape {b : Int} (h : 0 ≤ b ∧ b ≤ 1) : shOK (.int .u64) (some (.ret (.int .u64 b), [])) = true := by
  rw [shOK_ret, has_int, inK_u64, decide_eq_true (show 0 ≤ b by omega), decide_eq_true (show b ≤ 18446744073709551615 by omega)]; rfl


/-- ferryman/field.Get -/
noncomputable def T37 : List (FuncId × FSpec) := [(57, V57), (58, V58)]
theorem T37_ok : TabOK Tryd.prog T37 := TabOK.cons En57 V57_ok (TabOK.cons En58 V58_ok (TabOK.nil _))
noncomputable def L37_5 : ATs → AH → KC → Res := fun ts H k => match ts, H with
  | [(0, .fs 1 xs fl), (1, .int .i64 a), (8, .int .u64 v), (19, .int .i64 x), (20, .int .i64 y)], [] => aIf (getG xs a v x y) (k (.exit 0) [(0, .fs 1 xs fl), (1, .int .i64 a), (8, .int .u64 (getN xs a.toNat x.toNat)), (19, .int .i64 x), (20, .int .i64 x), (21, .bool false)] []) none
  | _, _ => none
noncomputable def C37 : Ctx := (ctx E T37 [(5, L37_5)] [(0, [0, 1, 2]), (1, [0, 1, 2, 18]), (2, [6, 7]), (3, [0, 1, 2, 8]), (4, [0, 1, 8, 19, 20]), (5, [0, 1, 8, 19, 20, 21]), (6, [0, 1, 8, 9, 19, 20]), (7, [0, 1, 8, 19, 20]), (8, [0, 1, 8, 19, 20]), (9, [6, 7]), (1000005, [0, 1, 8, 19, 20])] [] 33 70)
theorem C37_ok : CtxOK Tryd.prog C37 := ctx_ok E_ok E_flds mixed T37_ok
theorem C37_l0 : C37.loop (loopId (loopB Tryd.f37 0)) = some L37_5 := by kernel_rfl
theorem L37_5_in : LoopsOK C37 (loopB Tryd.f37 0) := LoopsOK.within 0 (by kernel_rfl) (fun j hj S hS => by
  omega)
theorem M37_5 (xs : List AV) (fl : SF) (a v x y : Int) (k : KC) : headedK C37 (loopB Tryd.f37 0) [(0, .fs 1 xs fl), (1, .int .i64 a), (8, .int .u64 v), (19, .int .i64 x), (20, .int .i64 y)] [] k =
  aIf (decide (y < x)) (aIf (shOK (Sh.int IntKind.u64) (R58 [AV.fs 1 xs fl, AV.int IntKind.i64 (IntKind.i64.wrap (a + y))])) (k AExit.normal [(0, AV.fs 1 xs fl), (1, AV.int IntKind.i64 a), (8, AV.int IntKind.u64 (IntKind.u64.wrap (↑(BitVec.ofInt 64 (IntKind.u64.wrap (v * 2)) ||| BitVec.ofInt 64 (sel (R58 [AV.fs 1 xs fl, AV.int IntKind.i64 (IntKind.i64.wrap (a + y))]) []).toInt).toNat : Int))), (19, AV.int IntKind.i64 x), (20, AV.int IntKind.i64 (IntKind.i64.wrap (y + 1)))] []) none) (k (AExit.exit 0) [(0, AV.fs 1 xs fl), (1, AV.int IntKind.i64 a), (8, AV.int IntKind.u64 v), (19, AV.int IntKind.i64 x), (20, AV.int IntKind.i64 y), (21, AV.bool (decide (y < x)))] []) := by kernel_rfl
theorem L37_5_ok : LoopSum C37 (loopB Tryd.f37 0) L37_5 := LoopSum.of C37_ok L37_5_in (fun ts H => by
  unfold L37_5
  split
  · rename_i xs fl a v x y
    rcases Bool.eq_false_or_eq_true (getG xs a v x y) with hp | hp
    · refine .inr ?_
      simp only [aIf_pos hp]
      obtain ⟨hu, hL, ha, rfl, rfl, hx0, hx1, hax⟩ := getG_of hp
      obtain ⟨a, rfl⟩ := Int.eq_ofNat_of_zero_le ha
      obtain ⟨n, rfl⟩ := Int.eq_ofNat_of_zero_le hx0
      have main : ∀ d j : Nat, j + d = n → ∃ m, ∀ k, aIterK m (headedK C37 (loopB Tryd.f37 0)) [(0, .fs 1 xs fl), (1, .int .i64 (a : Int)), (8, .int .u64 (getN xs a j)), (19, .int .i64 (n : Int)), (20, .int .i64 (j : Int))] [] k =
          k (.exit 0) [(0, .fs 1 xs fl), (1, .int .i64 (a : Int)), (8, .int .u64 (getN xs a n)), (19, .int .i64 (n : Int)), (20, .int .i64 (n : Int)), (21, .bool false)] [] := by
        intro d
        induction d with
        | zero =>
          intro j hj
          obtain rfl : j = n := by omega
          refine ⟨1, fun k => ?_⟩
          rw [aIterK, M37_5]
          simp only [Int.lt_irrefl, decide_false, aIf_false]
        | succ d ih =>
          intro j hj
          obtain ⟨m, hm⟩ := ih (j + 1) (by omega)
          refine ⟨m + 1, fun k => ?_⟩
          have e1 : IntKind.i64.wrap ((a : Int) + (j : Int)) = ((a + j : Nat) : Int) := by rw [← Int.natCast_add]; exact i64n (by omega)
          have e2 : IntKind.i64.wrap ((j : Int) + 1) = ((j + 1 : Nat) : Int) := by rw [← Int.natCast_succ]; exact i64n (by omega)
          have b1 := bitV_01 xs (a + j)
          have b2 := getN_range xs a j
          have b3 := pow2_le (show j ≤ 63 by omega)
          have b4 : (2 : Int) ^ 63 = 9223372036854775808 := rfl
          have e3 : IntKind.u64.wrap (getN xs a j * 2) = 2 * getN xs a j := by rw [Int.mul_comm]; exact u64n (by omega) (by omega)
          rw [aIterK, M37_5, aIf_pos (decide_eq_true (by omega)), e1, R58_is hu hL (by omega), shOK_ret, has_int, inK_u64, decide_eq_true (show 0 ≤ bitV xs (a + j) by omega), decide_eq_true (show bitV xs (a + j) ≤ 18446744073709551615 by omega), Bool.and_self, aIf_true, e2, e3]
          have e4 : (sel (some (AEnd.ret (AV.int IntKind.u64 (bitV xs (a + j))), [])) []).toInt = bitV xs (a + j) := rfl
          rw [e4, or1 b2.1 (by omega) b1.1 b1.2, u64n (by omega) (by omega)]
          exact hm k
      exact (main n 0 (by omega)).imp fun m hm k => (hm k).symm
    · exact .inl fun k => by rw [aIf_neg hp]
  · exact .inl fun k => rfl)
theorem C37_loops : ∀ c, Tryd.f37.body = some c → LoopsOK C37 c := LoopsOK.of 1 (by kernel_rfl) (fun j hj S hS => by
  match j, hj with
  | 0, _ => rw [C37_l0] at hS; cases hS; exact L37_5_ok
  | n + 1, hj => omega)
noncomputable def S37 : FSpec := inlineK C37 Tryd.f37
theorem S37_ok : SpecOK Tryd.prog 37 S37 := inlineK_ok C37_ok Tryd.func37 C37_loops
theorem En37 : Enters Tryd.prog 37 := ⟨_, Tryd.func37, by decide, rfl⟩
theorem R37_ex : ∃ R : List AV → Res, ∀ args, R args = S37 args [] encK := ⟨_, fun _ => rfl⟩
noncomputable def R37 : List AV → Res := Classical.choose R37_ex
theorem R37_eq (args : List AV) : R37 args = S37 args [] encK := Classical.choose_spec R37_ex args
noncomputable def V37 : FSpec := leafK (.tup [.int .u64, .int .i64]) R37
theorem V37_ok : SpecOK Tryd.prog 37 V37 := leafK_ok S37_ok R37_eq
theorem N37 (xs : List AV) (fl : SF) (a n : Int) : S37 [.fs 1 xs fl, .int .i64 a, .int .i64 n] [] encK =
  aIf (decide (n > 64)) (some (AEnd.ret (AV.tup [AV.int IntKind.u64 0, AV.int IntKind.i64 30]), [])) (aIf (shOK Sh.bool (R57 [AV.fs 1 xs fl, AV.int IntKind.i64 a, AV.int IntKind.i64 n])) (aIf (!(sel (R57 [AV.fs 1 xs fl, AV.int IntKind.i64 a, AV.int IntKind.i64 n]) []).toBool) (some (AEnd.ret (AV.tup [AV.int IntKind.u64 0, AV.int IntKind.i64 30]), [])) (aIf (Pl.getG xs a 0 n 0) (some (AEnd.ret (AV.tup [AV.int IntKind.u64 (Pl.getN xs a.toNat n.toNat), AV.int IntKind.i64 0]), [])) none)) none) := by kernel_rfl
theorem R37_is {xs : List AV} {fl : SF} {a n : Int} (hu : intsB .u8 xs = true) (hL : xs.length ≤ 1000000) : R37 [.fs 1 xs fl, .int .i64 a, .int .i64 n] = some (.ret (.tup [.int .u64 (getX xs a n), .int .i64 (getE xs.length a n)]), []) := by
  refine (R37_eq _).trans ?_
  rw [N37, R57_is hL, shOK_ret, has_bool, aIf_true]
  unfold getX getE
  by_cases h1 : n > 64
  · rw [decide_eq_true h1]; rfl
  · rw [decide_eq_false h1, aIf_false]
    cases h2 : thereB xs.length a n
    · rfl
    · rw [getG_ok hu hL h1 h2]; rfl

/-- ferryman/mapping.first -/
noncomputable def T34 : List (FuncId × FSpec) := [(37, V37)]
theorem T34_ok : TabOK Tryd.prog T34 := TabOK.cons En37 V37_ok (TabOK.nil _)
noncomputable def C34 : Ctx := (ctx E T34 [] [(0, [0, 1, 4]), (1, [1, 4, 5]), (2, [4])] [] 16 70)
theorem C34_ok : CtxOK Tryd.prog C34 := ctx_ok E_ok E_flds mixed T34_ok
noncomputable def S34 : FSpec := inlineK C34 Tryd.f34
theorem S34_ok : SpecOK Tryd.prog 34 S34 := inlineK_ok C34_ok Tryd.func34 (fun _ _ => LoopsOK.none _)
theorem En34 : Enters Tryd.prog 34 := ⟨_, Tryd.func34, by decide, rfl⟩
theorem R34_ex : ∃ R : List AV → Res, ∀ args, R args = S34 args [] encK := ⟨_, fun _ => rfl⟩
noncomputable def R34 : List AV → Res := Classical.choose R34_ex
theorem R34_eq (args : List AV) : R34 args = S34 args [] encK := Classical.choose_spec R34_ex args
noncomputable def V34 : FSpec := leafK (.agg [.int .i64, .int .u64]) R34
theorem V34_ok : SpecOK Tryd.prog 34 V34 := leafK_ok S34_ok R34_eq
theorem N34 (xs : List AV) (fl : SF) (n : Int) : S34 [.fs 1 xs fl, .int .i64 n] [] encK =
  aIf (shOK (Sh.tup [Sh.int IntKind.u64, Sh.int IntKind.i64]) (R37 [AV.fs 1 xs fl, AV.int IntKind.i64 0, AV.int IntKind.i64 n])) (some (AEnd.ret (AV.agg [AV.int IntKind.i64 n, AV.int IntKind.u64 (sel (R37 [AV.fs 1 xs fl, AV.int IntKind.i64 0, AV.int IntKind.i64 n]) [0]).toInt]), [])) none := by kernel_rfl
theorem getE_in (L : Nat) (a n : Int) : inK .i64 (getE L a n) = true := by unfold getE; cases (decide (n > 64) || !thereB L a n) <;> rfl
theorem getX_in (xs : List AV) (a n : Int) : inK .u64 (getX xs a n) = true := by
  have := getX_range xs a n
  rw [inK_u64, decide_eq_true this.1, decide_eq_true this.2]; rfl
theorem R34_is {xs : List AV} {fl : SF} {n : Int} (hu : intsB .u8 xs = true) (hL : xs.length ≤ 1000000) : R34 [.fs 1 xs fl, .int .i64 n] = some (.ret (.agg [.int .i64 n, .int .u64 (getX xs 0 n)]), []) := by
  refine (R34_eq _).trans ?_
  rw [N34, R37_is hu hL]
  simp only [shOK_ret, has_tup, hasL_cons, hasL_nil, has_int, getX_in, getE_in, List.getD_cons_zero, List.getD_cons_succ, List.length_cons, List.length_nil, beq_self_eq_true, Bool.and_self, aIf_true]
  rfl

/-- ferryman/field.wide -/
noncomputable def T55 : List (FuncId × FSpec) := []
theorem T55_ok : TabOK Tryd.prog T55 := TabOK.nil _
noncomputable def C55 : Ctx := (ctx E T55 [] [(0, [0, 1]), (1, [4])] [] 14 70)
theorem C55_ok : CtxOK Tryd.prog C55 := ctx_ok E_ok E_flds mixed T55_ok
noncomputable def S55 : FSpec := inlineK C55 Tryd.f55
theorem S55_ok : SpecOK Tryd.prog 55 S55 := inlineK_ok C55_ok Tryd.func55 (fun _ _ => LoopsOK.none _)
theorem En55 : Enters Tryd.prog 55 := ⟨_, Tryd.func55, by decide, rfl⟩
noncomputable def R55 (args : List AV) : Res := S55 args [] encK
noncomputable def V55 : FSpec := leafK (.bool) R55
theorem V55_ok : SpecOK Tryd.prog 55 V55 := leafK_ok S55_ok (fun _ => rfl)
theorem N55 (v n : Int) : S55 [.int .u64 v, .int .i64 n] [] encK =
  aIf (decide (n < 64)) (aIf (decide (IntKind.u64.wrap n < 0)) none (some (AEnd.ret (AV.bool (v.fdiv (2 ^ min (IntKind.u64.wrap n).toNat 64) != 0)), []))) (some (AEnd.ret (AV.bool false), [])) := by kernel_rfl
theorem R55_is {v n : Int} (hn : 0 ≤ n) : R55 [.int .u64 v, .int .i64 n] = some (.ret (.bool (!fitB v n)), []) := by
  show S55 _ [] encK = _
  rw [N55]
  exact wide_law hn (fun b => some (.ret (.bool b), []))

/-- ferryman/field.set -/
noncomputable def T56 : List (FuncId × FSpec) := []
theorem T56_ok : TabOK Tryd.prog T56 := TabOK.nil _
noncomputable def C56 : Ctx := (ctx E T56 [] [(0, [0, 1, 2, 6]), (1, [0, 1, 2, 6]), (2, [0, 1, 6, 21]), (3, [])] [] 30 70)
theorem C56_ok : CtxOK Tryd.prog C56 := ctx_ok E_ok E_flds mixed T56_ok
noncomputable def B56 : FSpec := inlineK C56 Tryd.f56
noncomputable def S56 : FSpec := fun args H k => match args, H with
  | [.sl 0 ver 0 len 1, .int .i64 i, .int .u64 v], (.cells w ys :: rest) => aIf (setG w ver len ys i v) (k (.ret (.tup [])) (.cells ver (setV ys i.toNat (v % 2)) :: rest)) none
  | _, _ => none
theorem B56_ok : SpecOK Tryd.prog 56 B56 := inlineK_ok C56_ok Tryd.func56 (fun _ _ => LoopsOK.none _)
theorem N56 (w ver len : Nat) (ys : List AV) (i v : Int) (rest : AH) (k : KE) : B56 [.sl 0 ver 0 len 1, .int .i64 i, .int .u64 v] (.cells w ys :: rest) k =
  aIf (decide (IntKind.i64.wrap (7 - i.tmod 8) < 0)) none (aIf (decide (0 ≤ IntKind.i64.wrap (i.tdiv 8))) (aIf (decide (IntKind.i64.wrap (i.tdiv 8) < (↑len : Int))) (aIf (w == ver) (aIf (decide (0 + (IntKind.i64.wrap (i.tdiv 8)).toNat * 1 + 1 ≤ ys.length)) (aIf ((ys.getD (0 + (IntKind.i64.wrap (i.tdiv 8)).toNat * 1) AV.junk).isInt IntKind.u8) (aIf (decide (0 ≤ IntKind.i64.wrap (i.tdiv 8))) (aIf (decide (IntKind.i64.wrap (i.tdiv 8) < (↑len : Int))) (aIf (w == ver) (aIf (decide (0 + (IntKind.i64.wrap (i.tdiv 8)).toNat * 1 + 1 ≤ ys.length)) (aIf (IntKind.u64.wrap (↑(BitVec.ofInt 64 v &&& BitVec.ofInt 64 1).toNat : Int) == 1) (aIf (decide (0 ≤ IntKind.i64.wrap (i.tdiv 8))) (aIf (decide (IntKind.i64.wrap (i.tdiv 8) < (↑len : Int))) (aIf (ver == ver) (aIf (decide (0 + (IntKind.i64.wrap (i.tdiv 8)).toNat * 1 + 1 ≤ (ys.set (0 + (IntKind.i64.wrap (i.tdiv 8)).toNat * 1) (AV.int IntKind.u8 (IntKind.u8.wrap (↑(BitVec.ofInt 8 (ys.getD (0 + (IntKind.i64.wrap (i.tdiv 8)).toNat * 1) AV.junk).toInt &&& ~~~BitVec.ofInt 8 (IntKind.u8.wrap (1 * 2 ^ min (IntKind.i64.wrap (7 - i.tmod 8)).toNat 8))).toNat : Int)))).length)) (aIf (((ys.set (0 + (IntKind.i64.wrap (i.tdiv 8)).toNat * 1) (AV.int IntKind.u8 (IntKind.u8.wrap (↑(BitVec.ofInt 8 (ys.getD (0 + (IntKind.i64.wrap (i.tdiv 8)).toNat * 1) AV.junk).toInt &&& ~~~BitVec.ofInt 8 (IntKind.u8.wrap (1 * 2 ^ min (IntKind.i64.wrap (7 - i.tmod 8)).toNat 8))).toNat : Int)))).getD (0 + (IntKind.i64.wrap (i.tdiv 8)).toNat * 1) AV.junk).isInt IntKind.u8) (aIf (decide (0 ≤ IntKind.i64.wrap (i.tdiv 8))) (aIf (decide (IntKind.i64.wrap (i.tdiv 8) < (↑len : Int))) (aIf (ver == ver) (aIf (decide (0 + (IntKind.i64.wrap (i.tdiv 8)).toNat * 1 + 1 ≤ (ys.set (0 + (IntKind.i64.wrap (i.tdiv 8)).toNat * 1) (AV.int IntKind.u8 (IntKind.u8.wrap (↑(BitVec.ofInt 8 (ys.getD (0 + (IntKind.i64.wrap (i.tdiv 8)).toNat * 1) AV.junk).toInt &&& ~~~BitVec.ofInt 8 (IntKind.u8.wrap (1 * 2 ^ min (IntKind.i64.wrap (7 - i.tmod 8)).toNat 8))).toNat : Int)))).length)) (k (AEnd.ret (AV.tup [])) (AO.cells ver ((ys.set (0 + (IntKind.i64.wrap (i.tdiv 8)).toNat * 1) (AV.int IntKind.u8 (IntKind.u8.wrap (↑(BitVec.ofInt 8 (ys.getD (0 + (IntKind.i64.wrap (i.tdiv 8)).toNat * 1) AV.junk).toInt &&& ~~~BitVec.ofInt 8 (IntKind.u8.wrap (1 * 2 ^ min (IntKind.i64.wrap (7 - i.tmod 8)).toNat 8))).toNat : Int)))).set (0 + (IntKind.i64.wrap (i.tdiv 8)).toNat * 1) (AV.int IntKind.u8 (IntKind.u8.wrap (↑(BitVec.ofInt 8 ((ys.set (0 + (IntKind.i64.wrap (i.tdiv 8)).toNat * 1) (AV.int IntKind.u8 (IntKind.u8.wrap (↑(BitVec.ofInt 8 (ys.getD (0 + (IntKind.i64.wrap (i.tdiv 8)).toNat * 1) AV.junk).toInt &&& ~~~BitVec.ofInt 8 (IntKind.u8.wrap (1 * 2 ^ min (IntKind.i64.wrap (7 - i.tmod 8)).toNat 8))).toNat : Int)))).getD (0 + (IntKind.i64.wrap (i.tdiv 8)).toNat * 1) AV.junk).toInt ||| BitVec.ofInt 8 (IntKind.u8.wrap (1 * 2 ^ min (IntKind.i64.wrap (7 - i.tmod 8)).toNat 8))).toNat : Int)))) :: rest)) none) none) none) none) none) none) none) none) none) (k (AEnd.ret (AV.tup [])) (AO.cells ver (ys.set (0 + (IntKind.i64.wrap (i.tdiv 8)).toNat * 1) (AV.int IntKind.u8 (IntKind.u8.wrap (↑(BitVec.ofInt 8 (ys.getD (0 + (IntKind.i64.wrap (i.tdiv 8)).toNat * 1) AV.junk).toInt &&& ~~~BitVec.ofInt 8 (IntKind.u8.wrap (1 * 2 ^ min (IntKind.i64.wrap (7 - i.tmod 8)).toNat 8))).toNat : Int)))) :: rest))) none) none) none) none) none) none) none) none) none) := by kernel_rfl
theorem S56_ok : SpecOK Tryd.prog 56 S56 := by
  refine B56_ok.turn fun args H => ?_
  unfold S56
  split
  · rename_i ver len i v w ys rest
    rcases Bool.eq_false_or_eq_true (setG w ver len ys i v) with hp | hp
    · refine .inr fun k => ?_
      rw [aIf_pos hp, N56]
      obtain ⟨rfl, rfl, hL, hu, hi0, hi1, hv0, hv1⟩ := setG_of hp
      obtain ⟨j, rfl⟩ := Int.eq_ofNat_of_zero_le hi0
      have hj : j / 8 < ys.length := by omega
      obtain ⟨x, hx, he⟩ := u8_get hu (j / 8) hj
      have hs : 7 - j % 8 < 8 := by omega
      have e1 : IntKind.i64.wrap ((j : Int).tdiv 8) = ((j / 8 : Nat) : Int) := div8 (by omega)
      have e2 := sh7 j
      have e3 : min (7 - j % 8) 8 = 7 - j % 8 := by omega
      have e4 : decide (((j / 8 : Nat) : Int) < (ys.length : Int)) = true := decide_eq_true (by omega)
      have e5 : decide (j / 8 + 1 ≤ ys.length) = true := decide_eq_true (by omega)
      have e6 : IntKind.u64.wrap (v % 2) = v % 2 := u64n (by omega) (by omega)
      have r0 := setByte_range (b := 0) hx hs (.inl rfl)
      have r1 := setByte_range (b := 1) hx hs (.inr rfl)
      simp only [e1, e2, e3, e4, e5, dnn, dnn', Int.toNat_natCast, Nat.zero_add, Nat.mul_one, Int.one_mul, he, isInt_self, beq_self_eq_true, aIf_true, aIf_false, and1 hv0 hv1, e6, u8pow hs, AV.toInt, byte_and hx hs, u8n r0.1 r0.2,
        List.length_set, getD_set_self hj, byte_or hx hs, u8n r1.1 r1.2, List.set_set, setV]
      rcases (by omega : v % 2 = 0 ∨ v % 2 = 1) with h2 | h2
      · rw [h2]; rfl
      · rw [h2]; rfl
    · exact .inl fun k => by rw [aIf_neg hp]
  · exact .inl fun k => rfl
theorem En56 : Enters Tryd.prog 56 := ⟨_, Tryd.func56, by decide, rfl⟩

/-- ferryman/field.Cat -/
noncomputable def T36 : List (FuncId × FSpec) := [(55, V55), (56, S56)]
theorem T36_ok : TabOK Tryd.prog T36 := TabOK.cons En55 V55_ok (TabOK.cons En56 S56_ok (TabOK.nil _))
noncomputable def L36_2 : ATs → AH → KC → Res := fun ts H k => match ts, H with
  | [(0, .fs 2 xs fl), (14, .fs 2 ys gl), (15, .int .i64 n), (16, .int .i64 i)], [] => aIf (catG ys 0 n i) (aIf (badE ys ys.length 0 == 0) (k (.exit 0) [(0, .fs 2 xs fl), (14, .fs 2 ys gl), (15, .int .i64 n), (16, .int .i64 n), (17, .bool false)] []) (k .ret [(2, .fs 0 [] .nil), (3, .int .i64 (badE ys ys.length 0))] [])) none
  | _, _ => none
noncomputable def L36_11 : ATs → AH → KC → Res := fun ts H k => match ts, H with
  | [(0, .fs 2 xs fl), (6, .int .i64 a), (34, .fs 2 ys gl), (35, .int .i64 n), (36, .int .i64 i)], [] => aIf (catG ys a n i && badE ys ys.length 0 == 0) (aIf (Nat.ble (sumR ys ys.length) 65536) (k (.exit 2) [(0, .fs 2 xs fl), (6, .int .i64 (sumR ys ys.length : Int)), (34, .fs 2 ys gl), (35, .int .i64 n), (36, .int .i64 n), (37, .bool false)] []) (k .ret [(2, .fs 0 [] .nil), (3, .int .i64 3)] [])) none
  | _, _ => none
noncomputable def L36_23 : ATs → AH → KC → Res := fun ts H k => match ts, H with
  | [(9, .sl 0 ver 0 len 1), (10, .int .i64 a), (12, .ptr 1 0 0), (51, .fs 2 xs fl), (52, .int .i64 n), (53, .int .i64 i), (58, .int .i64 x), (59, .int .i64 y)], [.cells w ys, .cells 0 [.int .i64 c, .int .u64 v]] => aIf (putG w ver len ys a c v x y) (k (.exit 6) [(9, .sl 0 ver 0 len 1), (10, .int .i64 a), (12, .ptr 1 0 0), (51, .fs 2 xs fl), (52, .int .i64 n), (53, .int .i64 i), (58, .int .i64 x), (59, .int .i64 x), (60, .bool false)] [.cells ver (putL ys a.toNat (vbit v c.toNat) c.toNat), .cells 0 [.int .i64 c, .int .u64 v]]) none
  | [(9, .fs 1 zs gl), (10, .int .i64 a), (12, .ptr 0 0 0), (51, .fs 2 xs fl), (52, .int .i64 n), (53, .int .i64 i), (58, .int .i64 x), (59, .int .i64 y)], [.cells 0 [.int .i64 c, .int .u64 v]] => aIf (x == 0 && y == 0) (k (.exit 6) [(9, .fs 1 zs gl), (10, .int .i64 a), (12, .ptr 0 0 0), (51, .fs 2 xs fl), (52, .int .i64 n), (53, .int .i64 i), (58, .int .i64 x), (59, .int .i64 y), (60, .bool false)] [.cells 0 [.int .i64 c, .int .u64 v]]) none
  | _, _ => none
noncomputable def L36_20 : ATs → AH → KC → Res := fun ts H k => match ts, H with
  | [(9, .sl 0 ver 0 len 1), (10, .int .i64 a), (51, .fs 2 xs fl), (52, .int .i64 n), (53, .int .i64 i)], [.cells w ys] => aIf (catG xs a n i && catG2 w ver len xs ys) (k (.exit 4) [(9, .sl 0 ver 0 len 1), (10, .int .i64 (sumR xs xs.length : Int)), (51, .fs 2 xs fl), (52, .int .i64 n), (53, .int .i64 n), (54, .bool false)] [.cells ver (catP xs xs.length xs.length)]) none
  | [(9, .fs 1 zs gl), (10, .int .i64 a), (51, .fs 2 xs fl), (52, .int .i64 n), (53, .int .i64 i)], [] => aIf (catG xs a n i && badE xs xs.length 0 == 0 && sumR xs xs.length == 0) (k (.exit 4) [(9, .fs 1 zs gl), (10, .int .i64 0), (51, .fs 2 xs fl), (52, .int .i64 n), (53, .int .i64 n), (54, .bool false)] []) none
  | _, _ => none
noncomputable def C36 : Ctx := (ctx E T36 [(2, L36_2), (11, L36_11), (23, L36_23), (20, L36_20)] [(0, [0]), (1, [0, 14, 15, 16]), (2, [0, 14, 15, 16, 17]), (3, [0, 5, 14, 15, 16]), (4, [0, 5, 14, 15, 16, 27]), (5, [2, 3]), (6, [0, 14, 15, 16, 32]), (7, [2, 3]), (8, [0, 14, 15, 16]), (9, [0, 6]), (10, [0, 6, 34, 35, 36]), (11, [0, 6, 34, 35, 36, 37]), (12, [0, 6, 8, 34, 35, 36]), (13, [0, 6, 34, 35, 36]), (14, [0, 6, 34, 35, 36, 45]), (15, [2, 3]), (16, [0, 6, 34, 35, 36]), (17, [0, 9]), (18, [0, 9, 10]), (19, [9, 10, 51, 52, 53]), (20, [9, 10, 51, 52, 53, 54]), (21, [9, 10, 12, 51, 52, 53]), (22, [9, 10, 12, 51, 52, 53, 58, 59]), (23, [9, 10, 12, 51, 52, 53, 58, 59, 60]), (24, [9, 10, 12, 13, 51, 52, 53, 58, 59]), (25, [9, 10, 12, 51, 52, 53, 58, 59]), (26, [9, 10, 12, 51, 52, 53, 58, 59]), (27, [9, 10, 51, 52, 53]), (28, [9, 10, 51, 52, 53]), (29, [2, 3]), (1000002, [0, 14, 15, 16]), (1000011, [0, 6, 34, 35, 36]), (1000020, [9, 10, 51, 52, 53]), (1000023, [9, 10, 12, 51, 52, 53, 58, 59])] [] 83 70)
theorem C36_ok : CtxOK Tryd.prog C36 := ctx_ok E_ok E_flds mixed T36_ok
theorem C36_l0 : C36.loop (loopId (loopB Tryd.f36 0)) = some L36_2 := by kernel_rfl
theorem C36_l1 : C36.loop (loopId (loopB Tryd.f36 1)) = some L36_11 := by kernel_rfl
theorem C36_l2 : C36.loop (loopId (loopB Tryd.f36 2)) = some L36_20 := by kernel_rfl
theorem C36_l3 : C36.loop (loopId (loopB Tryd.f36 3)) = some L36_23 := by kernel_rfl
theorem L36_23_in : LoopsOK C36 (loopB Tryd.f36 3) := LoopsOK.within 0 (by kernel_rfl) (fun j hj S hS => by
  omega)
theorem M36_23a (ver len : Nat) (a : Int) (xs : List AV) (fl : SF) (n i x y : Int) (w : Nat) (ys : List AV) (c v : Int) (k : KC) : headedK C36 (loopB Tryd.f36 3) [(9, .sl 0 ver 0 len 1), (10, .int .i64 a), (12, .ptr 1 0 0), (51, .fs 2 xs fl), (52, .int .i64 n), (53, .int .i64 i), (58, .int .i64 x), (59, .int .i64 y)] [.cells w ys, .cells 0 [.int .i64 c, .int .u64 v]] k =
  aIf (decide (y < x)) (aIf (decide (IntKind.u64.wrap (IntKind.i64.wrap (IntKind.i64.wrap (c - 1) - y)) < 0)) none (aIf (Pl.setG w ver len ys (IntKind.i64.wrap (a + y)) (v.fdiv (2 ^ min (IntKind.u64.wrap (IntKind.i64.wrap (IntKind.i64.wrap (c - 1) - y))).toNat 64))) (k AExit.normal [(9, AV.sl 0 ver 0 len 1), (10, AV.int IntKind.i64 a), (12, AV.ptr 1 0 0), (51, AV.fs 2 xs fl), (52, AV.int IntKind.i64 n), (53, AV.int IntKind.i64 i), (58, AV.int IntKind.i64 x), (59, AV.int IntKind.i64 (IntKind.i64.wrap (y + 1)))] [AO.cells ver (Pl.setV ys (IntKind.i64.wrap (a + y)).toNat (v.fdiv (2 ^ min (IntKind.u64.wrap (IntKind.i64.wrap (IntKind.i64.wrap (c - 1) - y))).toNat 64) % 2)), AO.cells 0 [AV.int IntKind.i64 c, AV.int IntKind.u64 v]]) none)) (k (AExit.exit 6) [(9, AV.sl 0 ver 0 len 1), (10, AV.int IntKind.i64 a), (12, AV.ptr 1 0 0), (51, AV.fs 2 xs fl), (52, AV.int IntKind.i64 n), (53, AV.int IntKind.i64 i), (58, AV.int IntKind.i64 x), (59, AV.int IntKind.i64 y), (60, AV.bool (decide (y < x)))] [AO.cells w ys, AO.cells 0 [AV.int IntKind.i64 c, AV.int IntKind.u64 v]]) := by kernel_rfl
theorem M36_23b (zs : List AV) (gl : SF) (a : Int) (xs : List AV) (fl : SF) (n i x y c v : Int) (k : KC) : headedK C36 (loopB Tryd.f36 3) [(9, .fs 1 zs gl), (10, .int .i64 a), (12, .ptr 0 0 0), (51, .fs 2 xs fl), (52, .int .i64 n), (53, .int .i64 i), (58, .int .i64 x), (59, .int .i64 y)] [.cells 0 [.int .i64 c, .int .u64 v]] k =
  aIf (decide (y < x)) (aIf (decide (IntKind.u64.wrap (IntKind.i64.wrap (IntKind.i64.wrap (c - 1) - y)) < 0)) none none) (k (AExit.exit 6) [(9, AV.fs 1 zs gl), (10, AV.int IntKind.i64 a), (12, AV.ptr 0 0 0), (51, AV.fs 2 xs fl), (52, AV.int IntKind.i64 n), (53, AV.int IntKind.i64 i), (58, AV.int IntKind.i64 x), (59, AV.int IntKind.i64 y), (60, AV.bool (decide (y < x)))] [AO.cells 0 [AV.int IntKind.i64 c, AV.int IntKind.u64 v]]) := by kernel_rfl
theorem L36_23_ok : LoopSum C36 (loopB Tryd.f36 3) L36_23 := LoopSum.of C36_ok L36_23_in (fun ts H => by
  unfold L36_23
  split
  · rename_i ver len a xs fl n i x y w ys c v
    rcases Bool.eq_false_or_eq_true (putG w ver len ys a c v x y) with hp | hp
    · refine .inr ?_
      simp only [aIf_pos hp]
      obtain ⟨rfl, rfl, hL, hu, ha, rfl, rfl, hn0, hn1, han, hv0, hv1⟩ := putG_of hp
      obtain ⟨a, rfl⟩ := Int.eq_ofNat_of_zero_le ha
      obtain ⟨c, rfl⟩ := Int.eq_ofNat_of_zero_le hn0
      have main : ∀ d j : Nat, j + d = c → ∃ m, ∀ k, aIterK m (headedK C36 (loopB Tryd.f36 3)) [(9, .sl 0 w 0 ys.length 1), (10, .int .i64 (a : Int)), (12, .ptr 1 0 0), (51, .fs 2 xs fl), (52, .int .i64 n), (53, .int .i64 i), (58, .int .i64 (c : Int)), (59, .int .i64 (j : Int))] [.cells w (putL ys a (vbit v c) j), .cells 0 [.int .i64 (c : Int), .int .u64 v]] k =
          k (.exit 6) [(9, .sl 0 w 0 ys.length 1), (10, .int .i64 (a : Int)), (12, .ptr 1 0 0), (51, .fs 2 xs fl), (52, .int .i64 n), (53, .int .i64 i), (58, .int .i64 (c : Int)), (59, .int .i64 (c : Int)), (60, .bool false)] [.cells w (putL ys a (vbit v c) c), .cells 0 [.int .i64 (c : Int), .int .u64 v]] := by
        intro d
        induction d with
        | zero =>
          intro j hj
          obtain rfl : j = c := by omega
          refine ⟨1, fun k => ?_⟩
          rw [aIterK, M36_23a]
          simp only [dltf, aIf_false]
        | succ d ih =>
          intro j hj
          obtain ⟨m, hm⟩ := ih (j + 1) (by omega)
          refine ⟨m + 1, fun k => ?_⟩
          have r := shr_range hv0 hv1 (c - 1 - j)
          have e3 : min (c - 1 - j) 64 = c - 1 - j := by omega
          rw [aIterK, M36_23a, aIf_pos (dlt (by omega)), sh_n1 (by omega) (by omega), u64nn (by omega), dnn, aIf_false, i64a (by omega), i64s (by omega), Int.toNat_natCast, e3, shr_eq, Int.toNat_natCast,
            setG_ok (by rw [putL_length]) hL (putL_u8 hu j fun i _ => vbit_01 v c i) (by omega) (by omega) r.1 r.2, aIf_true]
          exact hm k
      exact (main c 0 (by omega)).imp fun m hm k => (hm k).symm
    · exact .inl fun k => by rw [aIf_neg hp]
  · rename_i zs gl a xs fl n i x y c v
    rcases Bool.eq_false_or_eq_true (x == 0 && y == 0) with hp | hp
    · refine .inr ?_
      simp only [aIf_pos hp]
      simp only [Bool.and_eq_true, beq_iff_eq] at hp
      obtain ⟨rfl, rfl⟩ := hp
      refine ⟨1, fun k => ?_⟩
      rw [aIterK, M36_23b]
      rfl
    · exact .inl fun k => by rw [aIf_neg hp]
  · exact .inl fun k => rfl)
theorem L36_20_in : LoopsOK C36 (loopB Tryd.f36 2) := LoopsOK.within 1 (by kernel_rfl) (fun j hj S hS => by
  match j, hj with
  | 0, _ =>
    have e : C36.loop (loopId ((loopsOf (loopB Tryd.f36 2)).getD 0 .skip)) = some L36_23 := by kernel_rfl
    rw [e] at hS; cases hS; exact (show loopB Tryd.f36 3 = (loopsOf (loopB Tryd.f36 2)).getD 0 .skip by kernel_rfl) ▸ L36_23_ok
  | n + 1, hj => omega)
theorem M36_20a (ver len : Nat) (a : Int) (xs : List AV) (fl : SF) (n i : Int) (w : Nat) (ys : List AV) (k : KC) : headedK C36 (loopB Tryd.f36 2) [(9, .sl 0 ver 0 len 1), (10, .int .i64 a), (51, .fs 2 xs fl), (52, .int .i64 n), (53, .int .i64 i)] [.cells w ys] k =
  aIf (decide (i < n)) (aIf (decide (0 ≤ i)) (aIf (decide (i < (↑xs.length : Int))) (aIf ((xs.getD i.toNat AV.junk).cells.length == 2) (aIf (([(xs.getD i.toNat AV.junk).cells.getD 0 AV.junk, (xs.getD i.toNat AV.junk).cells.getD 1 AV.junk].getD 0 AV.junk).isInt IntKind.i64) (aIf (([(xs.getD i.toNat AV.junk).cells.getD 0 AV.junk, (xs.getD i.toNat AV.junk).cells.getD 1 AV.junk].getD 1 AV.junk).isInt IntKind.u64) (aIf (Pl.putG w ver len ys a ([(xs.getD i.toNat AV.junk).cells.getD 0 AV.junk, (xs.getD i.toNat AV.junk).cells.getD 1 AV.junk].getD 0 AV.junk).toInt ([(xs.getD i.toNat AV.junk).cells.getD 0 AV.junk, (xs.getD i.toNat AV.junk).cells.getD 1 AV.junk].getD 1 AV.junk).toInt ([(xs.getD i.toNat AV.junk).cells.getD 0 AV.junk, (xs.getD i.toNat AV.junk).cells.getD 1 AV.junk].getD 0 AV.junk).toInt 0) (aIf (true && (AV.uptoL 1 (Pl.putL ys a.toNat (Pl.vbit ([(xs.getD i.toNat AV.junk).cells.getD 0 AV.junk, (xs.getD i.toNat AV.junk).cells.getD 1 AV.junk].getD 1 AV.junk).toInt ([(xs.getD i.toNat AV.junk).cells.getD 0 AV.junk, (xs.getD i.toNat AV.junk).cells.getD 1 AV.junk].getD 0 AV.junk).toInt.toNat) ([(xs.getD i.toNat AV.junk).cells.getD 0 AV.junk, (xs.getD i.toNat AV.junk).cells.getD 1 AV.junk].getD 0 AV.junk).toInt.toNat) && true)) (k AExit.normal [(9, AV.sl 0 ver 0 len 1), (10, AV.int IntKind.i64 (IntKind.i64.wrap (a + ([(xs.getD i.toNat AV.junk).cells.getD 0 AV.junk, (xs.getD i.toNat AV.junk).cells.getD 1 AV.junk].getD 0 AV.junk).toInt))), (51, AV.fs 2 xs fl), (52, AV.int IntKind.i64 n), (53, AV.int IntKind.i64 (IntKind.i64.wrap (i + 1)))] [AO.cells ver (Pl.putL ys a.toNat (Pl.vbit ([(xs.getD i.toNat AV.junk).cells.getD 0 AV.junk, (xs.getD i.toNat AV.junk).cells.getD 1 AV.junk].getD 1 AV.junk).toInt ([(xs.getD i.toNat AV.junk).cells.getD 0 AV.junk, (xs.getD i.toNat AV.junk).cells.getD 1 AV.junk].getD 0 AV.junk).toInt.toNat) ([(xs.getD i.toNat AV.junk).cells.getD 0 AV.junk, (xs.getD i.toNat AV.junk).cells.getD 1 AV.junk].getD 0 AV.junk).toInt.toNat)]) (k AExit.normal [(9, AV.sl 0 ver 0 len 1), (10, AV.int IntKind.i64 (IntKind.i64.wrap (a + ([(xs.getD i.toNat AV.junk).cells.getD 0 AV.junk, (xs.getD i.toNat AV.junk).cells.getD 1 AV.junk].getD 0 AV.junk).toInt))), (51, AV.fs 2 xs fl), (52, AV.int IntKind.i64 n), (53, AV.int IntKind.i64 (IntKind.i64.wrap (i + 1)))] [AO.cells ver (Pl.putL ys a.toNat (Pl.vbit ([(xs.getD i.toNat AV.junk).cells.getD 0 AV.junk, (xs.getD i.toNat AV.junk).cells.getD 1 AV.junk].getD 1 AV.junk).toInt ([(xs.getD i.toNat AV.junk).cells.getD 0 AV.junk, (xs.getD i.toNat AV.junk).cells.getD 1 AV.junk].getD 0 AV.junk).toInt.toNat) ([(xs.getD i.toNat AV.junk).cells.getD 0 AV.junk, (xs.getD i.toNat AV.junk).cells.getD 1 AV.junk].getD 0 AV.junk).toInt.toNat), AO.cells 0 [AV.int IntKind.i64 ([(xs.getD i.toNat AV.junk).cells.getD 0 AV.junk, (xs.getD i.toNat AV.junk).cells.getD 1 AV.junk].getD 0 AV.junk).toInt, AV.int IntKind.u64 ([(xs.getD i.toNat AV.junk).cells.getD 0 AV.junk, (xs.getD i.toNat AV.junk).cells.getD 1 AV.junk].getD 1 AV.junk).toInt]])) none) none) none) none) none) none) (k (AExit.exit 4) [(9, AV.sl 0 ver 0 len 1), (10, AV.int IntKind.i64 a), (51, AV.fs 2 xs fl), (52, AV.int IntKind.i64 n), (53, AV.int IntKind.i64 i), (54, AV.bool (decide (i < n)))] [AO.cells w ys]) := by kernel_rfl
theorem M36_20b (zs : List AV) (gl : SF) (a : Int) (xs : List AV) (fl : SF) (n i : Int) (k : KC) : headedK C36 (loopB Tryd.f36 2) [(9, .fs 1 zs gl), (10, .int .i64 a), (51, .fs 2 xs fl), (52, .int .i64 n), (53, .int .i64 i)] [] k =
  aIf (decide (i < n)) (aIf (decide (0 ≤ i)) (aIf (decide (i < (↑xs.length : Int))) (aIf ((xs.getD i.toNat AV.junk).cells.length == 2) (aIf (([(xs.getD i.toNat AV.junk).cells.getD 0 AV.junk, (xs.getD i.toNat AV.junk).cells.getD 1 AV.junk].getD 0 AV.junk).isInt IntKind.i64) (aIf (([(xs.getD i.toNat AV.junk).cells.getD 0 AV.junk, (xs.getD i.toNat AV.junk).cells.getD 1 AV.junk].getD 1 AV.junk).isInt IntKind.u64) (aIf (([(xs.getD i.toNat AV.junk).cells.getD 0 AV.junk, (xs.getD i.toNat AV.junk).cells.getD 1 AV.junk].getD 0 AV.junk).toInt == 0 && true) (k AExit.normal [(9, AV.fs 1 zs gl), (10, AV.int IntKind.i64 (IntKind.i64.wrap (a + ([(xs.getD i.toNat AV.junk).cells.getD 0 AV.junk, (xs.getD i.toNat AV.junk).cells.getD 1 AV.junk].getD 0 AV.junk).toInt))), (51, AV.fs 2 xs fl), (52, AV.int IntKind.i64 n), (53, AV.int IntKind.i64 (IntKind.i64.wrap (i + 1)))] []) none) none) none) none) none) none) (k (AExit.exit 4) [(9, AV.fs 1 zs gl), (10, AV.int IntKind.i64 a), (51, AV.fs 2 xs fl), (52, AV.int IntKind.i64 n), (53, AV.int IntKind.i64 i), (54, AV.bool (decide (i < n)))] []) := by kernel_rfl
theorem L36_20_ok : LoopSum C36 (loopB Tryd.f36 2) L36_20 := LoopSum.of C36_ok L36_20_in (fun ts H => by
  unfold L36_20
  split
  · rename_i ver len a xs fl n i w ys
    rcases Bool.eq_false_or_eq_true (catG xs a n i && catG2 w ver len xs ys) with hp | hp
    · refine .inr ?_
      simp only [aIf_pos hp]
      rw [Bool.and_eq_true] at hp
      obtain ⟨hp, hp2⟩ := hp
      obtain ⟨hr, hL, rfl, rfl, rfl⟩ := catG_of hp
      obtain ⟨rfl, rfl, hs, hb, rfl⟩ := catG2_of hp2
      have main : ∀ d j : Nat, j + d = xs.length → ∃ m, ∀ k, aIterK m (headedK C36 (loopB Tryd.f36 2)) [(9, .sl 0 w 0 ((sumR xs xs.length + 7) / 8) 1), (10, .int .i64 (sumR xs j : Int)), (51, .fs 2 xs fl), (52, .int .i64 (xs.length : Int)), (53, .int .i64 (j : Int))] [.cells w (catP xs xs.length j)] k =
          k (.exit 4) [(9, .sl 0 w 0 ((sumR xs xs.length + 7) / 8) 1), (10, .int .i64 (sumR xs xs.length : Int)), (51, .fs 2 xs fl), (52, .int .i64 (xs.length : Int)), (53, .int .i64 (xs.length : Int)), (54, .bool false)] [.cells w (catP xs xs.length xs.length)] := by
        intro d
        induction d with
        | zero =>
          intro j hj
          obtain rfl : j = xs.length := by omega
          refine ⟨1, fun k => ?_⟩
          rw [aIterK, M36_20a, dltf]; rfl
        | succ d ih =>
          intro j hj
          have hjl : j < xs.length := by omega
          obtain ⟨he, ⟨n0, n1⟩, v0, v1⟩ := runs_get hr j hjl
          obtain ⟨b0, b1, b2⟩ := badE_ok hb j (by omega) (by omega)
          have hm1 := sumR_mono (xs := xs) (show j + 1 ≤ xs.length by omega)
          have hsum : IntKind.i64.wrap ((sumR xs j : Int) + rN xs j) = (sumR xs (j + 1) : Int) := by
            simp only [sumR]
            rw [show (sumR xs j : Int) + rN xs j = ((sumR xs j + (rN xs j).toNat : Nat) : Int) by omega]
            simp only [sumR] at hm1
            exact i64n (by omega)
          have hg : putG w w ((sumR xs xs.length + 7) / 8) (catP xs xs.length j) (sumR xs j : Int) (rN xs j) (rV xs j) (rN xs j) 0 = true := by
            simp only [putG, Bool.and_eq_true, beq_iff_eq, decide_eq_true_eq]
            simp only [sumR] at hm1
            exact ⟨⟨⟨⟨⟨⟨⟨⟨⟨⟨⟨trivial, catP_length _ _ _⟩, by omega⟩, catP_u8 (by omega)⟩, by omega⟩, trivial⟩, trivial⟩, b0⟩, b1⟩, by omega⟩, v0⟩, by omega⟩
          have hup : AV.uptoL 1 (putL (catP xs xs.length j) (sumR xs j) (vbit (rV xs j) (rN xs j).toNat) (rN xs j).toNat) = true := ints_upto (putL_u8 (catP_u8 (by omega)) _ fun i _ => vbit_01 _ _ i)
          obtain ⟨m, hm⟩ := ih (j + 1) (by omega)
          refine ⟨m + 1, fun k => ?_⟩
          rw [← hm k, aIterK, M36_20a]
          simp only [Int.toNat_natCast, he, AV.cells, List.length_cons, List.length_nil, List.getD_cons_zero, List.getD_cons_succ, Nat.reduceAdd, isInt_self, AV.toInt, beq_self_eq_true, dlt hjl, dnn', aIf_true, hg, hup, Bool.and_self, hsum, i64s (show j + 1 < 9223372036854775808 by omega), catP_succ hjl]
      exact (main xs.length 0 (by omega)).imp fun m hm k => (hm k).symm
    · exact .inl fun k => by rw [aIf_neg hp]
  · rename_i zs gl a xs fl n i
    rcases Bool.eq_false_or_eq_true (catG xs a n i && badE xs xs.length 0 == 0 && sumR xs xs.length == 0) with hp | hp
    · refine .inr ?_
      simp only [aIf_pos hp]
      rw [Bool.and_eq_true, Bool.and_eq_true, beq_iff_eq, beq_iff_eq] at hp
      obtain ⟨⟨hp, hb⟩, hs⟩ := hp
      obtain ⟨hr, hL, rfl, rfl, rfl⟩ := catG_of hp
      have main : ∀ d j : Nat, j + d = xs.length → ∃ m, ∀ k, aIterK m (headedK C36 (loopB Tryd.f36 2)) [(9, .fs 1 zs gl), (10, .int .i64 0), (51, .fs 2 xs fl), (52, .int .i64 (xs.length : Int)), (53, .int .i64 (j : Int))] [] k =
          k (.exit 4) [(9, .fs 1 zs gl), (10, .int .i64 0), (51, .fs 2 xs fl), (52, .int .i64 (xs.length : Int)), (53, .int .i64 (xs.length : Int)), (54, .bool false)] [] := by
        intro d
        induction d with
        | zero =>
          intro j hj
          obtain rfl : j = xs.length := by omega
          refine ⟨1, fun k => ?_⟩
          rw [aIterK, M36_20b, dltf]; rfl
        | succ d ih =>
          intro j hj
          have hjl : j < xs.length := by omega
          obtain ⟨he, ⟨n0, n1⟩, v0, v1⟩ := runs_get hr j hjl
          obtain ⟨b0, b1, b2⟩ := badE_ok hb j (by omega) (by omega)
          have hm1 := sumR_mono (xs := xs) (show j + 1 ≤ xs.length by omega)
          have hz : rN xs j = 0 := by simp only [sumR] at hm1; omega
          rw [hz] at he
          obtain ⟨m, hm⟩ := ih (j + 1) (by omega)
          refine ⟨m + 1, fun k => ?_⟩
          rw [← hm k, aIterK, M36_20b]
          simp only [Int.toNat_natCast, he, AV.cells, List.length_cons, List.length_nil, List.getD_cons_zero, List.getD_cons_succ, Nat.reduceAdd, isInt_self, AV.toInt, beq_self_eq_true, dlt hjl, dnn', aIf_true, Bool.and_self, i64s (show j + 1 < 9223372036854775808 by omega)]
          rfl
      exact (main xs.length 0 (by omega)).imp fun m hm k => (hm k).symm
    · exact .inl fun k => by rw [aIf_neg hp]
  · exact .inl fun k => rfl)
theorem L36_11_in : LoopsOK C36 (loopB Tryd.f36 1) := LoopsOK.within 0 (by kernel_rfl) (fun j hj S hS => by
  omega)
theorem M36_11a (xs : List AV) (fl : SF) (a : Int) (ys : List AV) (gl : SF) (n i : Int) (k : KC) : headedK C36 (loopB Tryd.f36 1) [(0, .fs 2 xs fl), (6, .int .i64 a), (34, .fs 2 ys gl), (35, .int .i64 n), (36, .int .i64 i)] [] k =
  aIf (decide (i < n)) (aIf (decide (0 ≤ i)) (aIf (decide (i < (↑ys.length : Int))) (aIf ((ys.getD i.toNat AV.junk).cells.length == 2) (aIf (([(ys.getD i.toNat AV.junk).cells.getD 0 AV.junk, (ys.getD i.toNat AV.junk).cells.getD 1 AV.junk].getD 0 AV.junk).isInt IntKind.i64) (aIf (([(ys.getD i.toNat AV.junk).cells.getD 0 AV.junk, (ys.getD i.toNat AV.junk).cells.getD 1 AV.junk].getD 1 AV.junk).isInt IntKind.u64) (aIf (decide (IntKind.i64.wrap (a + ([(ys.getD i.toNat AV.junk).cells.getD 0 AV.junk, (ys.getD i.toNat AV.junk).cells.getD 1 AV.junk].getD 0 AV.junk).toInt) > 65536)) (k AExit.ret [(2, AV.fs 0 [] SF.nil), (3, AV.int IntKind.i64 3)] []) (k AExit.normal [(0, AV.fs 2 xs fl), (6, AV.int IntKind.i64 (IntKind.i64.wrap (a + ([(ys.getD i.toNat AV.junk).cells.getD 0 AV.junk, (ys.getD i.toNat AV.junk).cells.getD 1 AV.junk].getD 0 AV.junk).toInt))), (34, AV.fs 2 ys gl), (35, AV.int IntKind.i64 n), (36, AV.int IntKind.i64 (IntKind.i64.wrap (i + 1)))] [])) none) none) none) none) none) (k (AExit.exit 2) [(0, AV.fs 2 xs fl), (6, AV.int IntKind.i64 a), (34, AV.fs 2 ys gl), (35, AV.int IntKind.i64 n), (36, AV.int IntKind.i64 i), (37, AV.bool (decide (i < n)))] []) := by kernel_rfl
theorem L36_11_ok : LoopSum C36 (loopB Tryd.f36 1) L36_11 := LoopSum.of C36_ok L36_11_in (fun ts H => by
  unfold L36_11
  split
  · rename_i xs fl a ys gl n i
    rcases Bool.eq_false_or_eq_true (catG ys a n i && badE ys ys.length 0 == 0) with hp | hp
    · refine .inr ?_
      simp only [aIf_pos hp]
      rw [Bool.and_eq_true, beq_iff_eq] at hp
      obtain ⟨hp, hb⟩ := hp
      obtain ⟨hr, hL, rfl, rfl, rfl⟩ := catG_of hp
      have main : ∀ d j : Nat, j + d = ys.length → sumR ys j ≤ 65536 → ∃ m, ∀ k, aIterK m (headedK C36 (loopB Tryd.f36 1)) [(0, .fs 2 xs fl), (6, .int .i64 (sumR ys j : Int)), (34, .fs 2 ys gl), (35, .int .i64 (ys.length : Int)), (36, .int .i64 (j : Int))] [] k =
          aIf (Nat.ble (sumR ys ys.length) 65536) (k (.exit 2) [(0, .fs 2 xs fl), (6, .int .i64 (sumR ys ys.length : Int)), (34, .fs 2 ys gl), (35, .int .i64 (ys.length : Int)), (36, .int .i64 (ys.length : Int)), (37, .bool false)] []) (k .ret [(2, .fs 0 [] .nil), (3, .int .i64 3)] []) := by
        intro d
        induction d with
        | zero =>
          intro j hj hs
          obtain rfl : j = ys.length := by omega
          refine ⟨1, fun k => ?_⟩
          rw [aIterK, M36_11a, dltf, Nat.ble_eq_true_of_le hs]; rfl
        | succ d ih =>
          intro j hj hs
          have hjl : j < ys.length := by omega
          obtain ⟨he, ⟨n0, n1⟩, v0, v1⟩ := runs_get hr j hjl
          obtain ⟨b0, b1, b2⟩ := badE_ok hb j (by omega) (by omega)
          have hsum : IntKind.i64.wrap ((sumR ys j : Int) + rN ys j) = (sumR ys (j + 1) : Int) := by
            simp only [sumR]
            rw [show (sumR ys j : Int) + rN ys j = ((sumR ys j + (rN ys j).toNat : Nat) : Int) by omega]
            exact i64n (by omega)
          by_cases c : sumR ys (j + 1) ≤ 65536
          · obtain ⟨m, hm⟩ := ih (j + 1) (by omega) c
            refine ⟨m + 1, fun k => ?_⟩
            rw [← hm k, aIterK, M36_11a]
            simp only [Int.toNat_natCast, he, AV.cells, List.length_cons, List.length_nil, List.getD_cons_zero, List.getD_cons_succ, Nat.reduceAdd, isInt_self, AV.toInt, beq_self_eq_true, dlt hjl, dnn', aIf_true, hsum, decide_eq_false (show ¬ (sumR ys (j + 1) : Int) > 65536 by omega), aIf_false, i64s (show j + 1 < 9223372036854775808 by omega)]
          · refine ⟨1, fun k => ?_⟩
            have hm := sumR_mono (xs := ys) (show j + 1 ≤ ys.length by omega)
            have hbl : Nat.ble (sumR ys ys.length) 65536 = false := by
              rw [Bool.eq_false_iff]; intro h; have := Nat.le_of_ble_eq_true h; omega
            rw [aIterK, M36_11a, hbl]
            simp only [Int.toNat_natCast, he, AV.cells, List.length_cons, List.length_nil, List.getD_cons_zero, List.getD_cons_succ, Nat.reduceAdd, isInt_self, AV.toInt, beq_self_eq_true, dlt hjl, dnn', aIf_true, hsum, decide_eq_true (show (sumR ys (j + 1) : Int) > 65536 by omega), aIf_false]
      exact (main ys.length 0 (by omega) (Nat.zero_le _)).imp fun m hm k => (hm k).symm
    · exact .inl fun k => by rw [aIf_neg hp]
  · exact .inl fun k => rfl)
theorem L36_2_in : LoopsOK C36 (loopB Tryd.f36 0) := LoopsOK.within 0 (by kernel_rfl) (fun j hj S hS => by
  omega)
theorem M36_2a (xs : List AV) (fl : SF) (ys : List AV) (gl : SF) (n i : Int) (k : KC) : headedK C36 (loopB Tryd.f36 0) [(0, .fs 2 xs fl), (14, .fs 2 ys gl), (15, .int .i64 n), (16, .int .i64 i)] [] k =
  aIf (decide (i < n)) (aIf (decide (0 ≤ i)) (aIf (decide (i < (↑ys.length : Int))) (aIf ((ys.getD i.toNat AV.junk).cells.length == 2) (aIf (([(ys.getD i.toNat AV.junk).cells.getD 0 AV.junk, (ys.getD i.toNat AV.junk).cells.getD 1 AV.junk].getD 0 AV.junk).isInt IntKind.i64) (aIf (([(ys.getD i.toNat AV.junk).cells.getD 0 AV.junk, (ys.getD i.toNat AV.junk).cells.getD 1 AV.junk].getD 1 AV.junk).isInt IntKind.u64) (aIf (decide (([(ys.getD i.toNat AV.junk).cells.getD 0 AV.junk, (ys.getD i.toNat AV.junk).cells.getD 1 AV.junk].getD 0 AV.junk).toInt < 0)) (k AExit.ret [(2, AV.fs 0 [] SF.nil), (3, AV.int IntKind.i64 30)] []) (aIf (decide (([(ys.getD i.toNat AV.junk).cells.getD 0 AV.junk, (ys.getD i.toNat AV.junk).cells.getD 1 AV.junk].getD 0 AV.junk).toInt > 64)) (k AExit.ret [(2, AV.fs 0 [] SF.nil), (3, AV.int IntKind.i64 30)] []) (aIf (shOK Sh.bool (R55 [AV.int IntKind.u64 ([(ys.getD i.toNat AV.junk).cells.getD 0 AV.junk, (ys.getD i.toNat AV.junk).cells.getD 1 AV.junk].getD 1 AV.junk).toInt, AV.int IntKind.i64 ([(ys.getD i.toNat AV.junk).cells.getD 0 AV.junk, (ys.getD i.toNat AV.junk).cells.getD 1 AV.junk].getD 0 AV.junk).toInt])) (aIf (sel (R55 [AV.int IntKind.u64 ([(ys.getD i.toNat AV.junk).cells.getD 0 AV.junk, (ys.getD i.toNat AV.junk).cells.getD 1 AV.junk].getD 1 AV.junk).toInt, AV.int IntKind.i64 ([(ys.getD i.toNat AV.junk).cells.getD 0 AV.junk, (ys.getD i.toNat AV.junk).cells.getD 1 AV.junk].getD 0 AV.junk).toInt]) []).toBool (k AExit.ret [(2, AV.fs 0 [] SF.nil), (3, AV.int IntKind.i64 1)] []) (k AExit.normal [(0, AV.fs 2 xs fl), (14, AV.fs 2 ys gl), (15, AV.int IntKind.i64 n), (16, AV.int IntKind.i64 (IntKind.i64.wrap (i + 1)))] [])) none))) none) none) none) none) none) (k (AExit.exit 0) [(0, AV.fs 2 xs fl), (14, AV.fs 2 ys gl), (15, AV.int IntKind.i64 n), (16, AV.int IntKind.i64 i), (17, AV.bool (decide (i < n)))] []) := by kernel_rfl
theorem L36_2_ok : LoopSum C36 (loopB Tryd.f36 0) L36_2 := LoopSum.of C36_ok L36_2_in (fun ts H => by
  unfold L36_2
  split
  · rename_i xs fl ys gl n i
    rcases Bool.eq_false_or_eq_true (catG ys 0 n i) with hp | hp
    · refine .inr ?_
      simp only [aIf_pos hp]
      obtain ⟨hr, hL, rfl, _, rfl⟩ := catG_of hp
      have main : ∀ d j : Nat, j + d = ys.length → badE ys ys.length 0 = badE ys d j → ∃ m, ∀ k, aIterK m (headedK C36 (loopB Tryd.f36 0)) [(0, .fs 2 xs fl), (14, .fs 2 ys gl), (15, .int .i64 (ys.length : Int)), (16, .int .i64 (j : Int))] [] k =
          aIf (badE ys ys.length 0 == 0) (k (.exit 0) [(0, .fs 2 xs fl), (14, .fs 2 ys gl), (15, .int .i64 (ys.length : Int)), (16, .int .i64 (ys.length : Int)), (17, .bool false)] []) (k .ret [(2, .fs 0 [] .nil), (3, .int .i64 (badE ys ys.length 0))] []) := by
        intro d
        induction d with
        | zero =>
          intro j hj hb
          obtain rfl : j = ys.length := by omega
          refine ⟨1, fun k => ?_⟩
          rw [hb, aIterK, M36_2a, dltf]; rfl
        | succ d ih =>
          intro j hj hb
          have hjl : j < ys.length := by omega
          obtain ⟨he, ⟨n0, n1⟩, v0, v1⟩ := runs_get hr j hjl
          simp only [badE] at hb
          by_cases c1 : rN ys j < 0
          · refine ⟨1, fun k => ?_⟩
            rw [decide_eq_true c1] at hb
            rw [hb, aIterK, M36_2a]
            simp only [Int.toNat_natCast, he, AV.cells, List.length_cons, List.length_nil, List.getD_cons_zero, List.getD_cons_succ, Nat.reduceAdd, isInt_self, AV.toInt, beq_self_eq_true, dlt hjl, dnn', aIf_true, decide_eq_true c1]
            rfl
          by_cases c2 : rN ys j > 64
          · refine ⟨1, fun k => ?_⟩
            rw [decide_eq_true c2, Bool.or_true] at hb
            rw [hb, aIterK, M36_2a]
            simp only [Int.toNat_natCast, he, AV.cells, List.length_cons, List.length_nil, List.getD_cons_zero, List.getD_cons_succ, Nat.reduceAdd, isInt_self, AV.toInt, beq_self_eq_true, dlt hjl, dnn', aIf_true, decide_eq_false c1, aIf_false, decide_eq_true c2]
            rfl
          rw [decide_eq_false c1, decide_eq_false c2] at hb
          have hw := R55_is (v := rV ys j) (n := rN ys j) (by omega)
          cases c3 : fitB (rV ys j) (rN ys j) with
          | false =>
            refine ⟨1, fun k => ?_⟩
            rw [c3] at hb hw
            rw [hb, aIterK, M36_2a]
            simp only [Int.toNat_natCast, he, AV.cells, List.length_cons, List.length_nil, List.getD_cons_zero, List.getD_cons_succ, Nat.reduceAdd, isInt_self, AV.toInt, beq_self_eq_true, dlt hjl, dnn', aIf_true, decide_eq_false c1, aIf_false, decide_eq_false c2, hw, shOK_ret, has_bool]
            rfl
          | true =>
            rw [c3] at hb hw
            obtain ⟨m, hm⟩ := ih (j + 1) (by omega) hb
            refine ⟨m + 1, fun k => ?_⟩
            rw [← hm k, aIterK, M36_2a]
            simp only [Int.toNat_natCast, he, AV.cells, List.length_cons, List.length_nil, List.getD_cons_zero, List.getD_cons_succ, Nat.reduceAdd, isInt_self, AV.toInt, beq_self_eq_true, dlt hjl, dnn', aIf_true, decide_eq_false c1, aIf_false, decide_eq_false c2, hw, shOK_ret, has_bool, i64s (show j + 1 < 9223372036854775808 by omega)]
            rfl
      exact (main ys.length 0 (by omega) rfl).imp fun m hm k => (hm k).symm
    · exact .inl fun k => by rw [aIf_neg hp]
  · exact .inl fun k => rfl)
theorem C36_loops : ∀ c, Tryd.f36.body = some c → LoopsOK C36 c := LoopsOK.of 4 (by kernel_rfl) (fun j hj S hS => by
  match j, hj with
  | 0, _ => rw [C36_l0] at hS; cases hS; exact L36_2_ok
  | 1, _ => rw [C36_l1] at hS; cases hS; exact L36_11_ok
  | 2, _ => rw [C36_l2] at hS; cases hS; exact L36_20_ok
  | 3, _ => rw [C36_l3] at hS; cases hS; exact L36_23_ok
  | n + 4, hj => omega)
noncomputable def S36 : FSpec := inlineK C36 Tryd.f36
theorem S36_ok : SpecOK Tryd.prog 36 S36 := inlineK_ok C36_ok Tryd.func36 C36_loops
theorem En36 : Enters Tryd.prog 36 := ⟨_, Tryd.func36, by decide, rfl⟩
theorem R36_ex : ∃ R : List AV → Res, ∀ args, R args = S36 args [] encK := ⟨_, fun _ => rfl⟩
noncomputable def R36 : List AV → Res := Classical.choose R36_ex
theorem R36_eq (args : List AV) : R36 args = S36 args [] encK := Classical.choose_spec R36_ex args
noncomputable def V36 : FSpec := leafK (.tup [.ints .u8, .int .i64]) R36
theorem V36_ok : SpecOK Tryd.prog 36 V36 := leafK_ok S36_ok R36_eq
theorem N36 (xs : List AV) (fl : SF) : S36 [.fs 2 xs fl] [] encK =
  aIf (Pl.catG xs 0 (↑xs.length : Int) 0) (aIf (Pl.badE xs xs.length 0 == 0) (aIf (Pl.catG xs 0 (↑xs.length : Int) 0 && Pl.badE xs xs.length 0 == 0) (aIf ((Pl.sumR xs xs.length).ble 65536) (aIf (decide (0 ≤ IntKind.i64.wrap ((IntKind.i64.wrap ((↑(Pl.sumR xs xs.length) : Int) + 7)).tdiv 8))) (aIf (decide (IntKind.i64.wrap ((IntKind.i64.wrap ((↑(Pl.sumR xs xs.length) : Int) + 7)).tdiv 8) ≤ IntKind.i64.wrap ((IntKind.i64.wrap ((↑(Pl.sumR xs xs.length) : Int) + 7)).tdiv 8))) (aIf (decide (IntKind.i64.wrap ((IntKind.i64.wrap ((↑(Pl.sumR xs xs.length) : Int) + 7)).tdiv 8) * 1 ≤ 281474976710656)) (aIf (decide (IntKind.i64.wrap ((IntKind.i64.wrap ((↑(Pl.sumR xs xs.length) : Int) + 7)).tdiv 8) ≤ 281474976710656)) (aIf (IntKind.i64.wrap ((IntKind.i64.wrap ((↑(Pl.sumR xs xs.length) : Int) + 7)).tdiv 8) == 0) (aIf (Pl.catG xs 0 (↑xs.length : Int) 0 && Pl.badE xs xs.length 0 == 0 && Pl.sumR xs xs.length == 0) (some (AEnd.ret (AV.tup [AV.fs 1 [] SF.zc, AV.int IntKind.i64 0]), [])) none) (aIf (Pl.catG xs 0 (↑xs.length : Int) 0 && Pl.catG2 ((IntKind.i64.wrap ((IntKind.i64.wrap ((↑(Pl.sumR xs xs.length) : Int) + 7)).tdiv 8)).toNat * 1) ((IntKind.i64.wrap ((IntKind.i64.wrap ((↑(Pl.sumR xs xs.length) : Int) + 7)).tdiv 8)).toNat * 1) (IntKind.i64.wrap ((IntKind.i64.wrap ((↑(Pl.sumR xs xs.length) : Int) + 7)).tdiv 8)).toNat xs (List.replicate (IntKind.i64.wrap ((IntKind.i64.wrap ((↑(Pl.sumR xs xs.length) : Int) + 7)).tdiv 8)).toNat [AV.int IntKind.u8 0]).flatten) (aIf ((IntKind.i64.wrap ((IntKind.i64.wrap ((↑(Pl.sumR xs xs.length) : Int) + 7)).tdiv 8)).toNat * 1 == (IntKind.i64.wrap ((IntKind.i64.wrap ((↑(Pl.sumR xs xs.length) : Int) + 7)).tdiv 8)).toNat * 1) (aIf (decide (0 + (IntKind.i64.wrap ((IntKind.i64.wrap ((↑(Pl.sumR xs xs.length) : Int) + 7)).tdiv 8)).toNat * 1 ≤ (Pl.catP xs xs.length xs.length).length)) (aIf (flatL (List.take ((IntKind.i64.wrap ((IntKind.i64.wrap ((↑(Pl.sumR xs xs.length) : Int) + 7)).tdiv 8)).toNat * 1) (List.drop 0 (Pl.catP xs xs.length xs.length)))) (some (AEnd.ret (AV.tup [AV.fs 1 (List.take (IntKind.i64.wrap ((IntKind.i64.wrap ((↑(Pl.sumR xs xs.length) : Int) + 7)).tdiv 8)).toNat (List.drop 0 (Pl.catP xs xs.length xs.length))) SF.any, AV.int IntKind.i64 0]), [])) none) none) none) none)) none) none) none) none) (some (AEnd.ret (AV.tup [AV.fs 1 [] SF.nil, AV.int IntKind.i64 3]), []))) none) (some (AEnd.ret (AV.tup [AV.fs 1 [] SF.nil, AV.int IntKind.i64 (Pl.badE xs xs.length 0)]), []))) none := by kernel_rfl
theorem R36_is {xs : List AV} {fl : SF} (hr : runsB xs = true) (hL : xs.length ≤ 65536) : ∃ fl', R36 [.fs 2 xs fl] = some (.ret (.tup [.fs 1 (catX xs) fl', .int .i64 (catE xs)]), []) := by
  simp only [R36_eq]
  have hc := catG_ok hr hL
  unfold catX catE
  rw [N36, hc]
  cases hb : badE xs xs.length 0 == 0
  · exact ⟨.nil, rfl⟩
  cases hs : Nat.ble (sumR xs xs.length) 65536
  · exact ⟨.nil, rfl⟩
  have hs' := Nat.le_of_ble_eq_true hs
  have hb' : badE xs xs.length 0 = 0 := by simpa using hb
  by_cases h4 : sumR xs xs.length = 0
  · refine ⟨.zc, ?_⟩
    have hp : catP xs xs.length xs.length = [] := List.eq_nil_of_length_eq_zero (by rw [catP_length, h4])
    rw [bytes_len (by omega), hp, h4]; rfl
  · refine ⟨.any, ?_⟩
    have hp := catP_u8 (xs := xs) (Nat.le_refl xs.length)
    have hpl := catP_length xs xs.length xs.length
    have hg := catG2_ok (w := (sumR xs xs.length + 7) / 8) rfl hs' hb'
    rw [bytes_len (by omega), flatten_rep, Int.toNat_natCast, Nat.mul_one, show List.replicate ((sumR xs xs.length + 7) / 8) (AV.int IntKind.u8 0) = zeros ((sumR xs xs.length + 7) / 8) from rfl, hg, take_all hpl, ints_flat hp, hpl, beq_self_eq_true, Nat.zero_add,
      show ((((sumR xs xs.length + 7) / 8 : Nat) : Int) == 0) = false from beq_eq_false_iff_ne.2 (by omega), dnn', decide_eq_true (Int.le_refl _), decide_eq_true (show (((sumR xs xs.length + 7) / 8 : Nat) : Int) * 1 ≤ 281474976710656 by omega), decide_eq_true (show (((sumR xs xs.length + 7) / 8 : Nat) : Int) ≤ 281474976710656 by omega), decide_eq_true (Nat.le_refl _)]
    rfl
noncomputable def W36 : FSpec := shareK (nilK 2 V36)
theorem W36_ok : SpecOK Tryd.prog 36 W36 := (V36_ok.nil 2).share

/-- ferryman/mapping.six -/
noncomputable def T35 : List (FuncId × FSpec) := [(36, V36)]
theorem T35_ok : TabOK Tryd.prog T35 := TabOK.cons En36 V36_ok (TabOK.nil _)
noncomputable def C35 : Ctx := (ctx E T35 [] [(0, [0, 2]), (1, [2, 3]), (2, [2, 3, 5]), (3, [2, 5]), (4, [2])] [] 15 70)
theorem C35_ok : CtxOK Tryd.prog C35 := ctx_ok E_ok E_flds mixed T35_ok
noncomputable def B35 : FSpec := inlineK C35 Tryd.f35
noncomputable def S35 : FSpec := fun args H k => match args, H with
  | [.fs 2 xs fl], [] => aIf (runsB xs && Nat.ble xs.length 65536) (k (.ret (.agg [.int .u8 (byteAt (padC 16 (catX xs)) 0), .int .u8 (byteAt (padC 16 (catX xs)) 1), .int .u8 (byteAt (padC 16 (catX xs)) 2), .int .u8 (byteAt (padC 16 (catX xs)) 3), .int .u8 (byteAt (padC 16 (catX xs)) 4), .int .u8 (byteAt (padC 16 (catX xs)) 5), .int .u8 (byteAt (padC 16 (catX xs)) 6), .int .u8 (byteAt (padC 16 (catX xs)) 7), .int .u8 (byteAt (padC 16 (catX xs)) 8), .int .u8 (byteAt (padC 16 (catX xs)) 9), .int .u8 (byteAt (padC 16 (catX xs)) 10), .int .u8 (byteAt (padC 16 (catX xs)) 11), .int .u8 (byteAt (padC 16 (catX xs)) 12), .int .u8 (byteAt (padC 16 (catX xs)) 13), .int .u8 (byteAt (padC 16 (catX xs)) 14), .int .u8 (byteAt (padC 16 (catX xs)) 15)])) []) none
  | _, _ => none
theorem B35_ok : SpecOK Tryd.prog 35 B35 := inlineK_ok C35_ok Tryd.func35 (fun _ _ => LoopsOK.none _)
theorem N35 (xs : List AV) (fl : SF) (k : KE) {c0 : _} (gc0 : c0 = ([] ++ List.take (min (sel (R36 [AV.fs 2 xs fl]) [0]).toFs.length 16 * 1) (List.flatMap AV.cells (sel (R36 [AV.fs 2 xs fl]) [0]).toFs) ++ List.drop (0 + min (sel (R36 [AV.fs 2 xs fl]) [0]).toFs.length 16 * 1) [AV.int IntKind.u8 0, AV.int IntKind.u8 0, AV.int IntKind.u8 0, AV.int IntKind.u8 0, AV.int IntKind.u8 0, AV.int IntKind.u8 0, AV.int IntKind.u8 0, AV.int IntKind.u8 0, AV.int IntKind.u8 0, AV.int IntKind.u8 0, AV.int IntKind.u8 0, AV.int IntKind.u8 0, AV.int IntKind.u8 0, AV.int IntKind.u8 0, AV.int IntKind.u8 0, AV.int IntKind.u8 0])) :
  B35 [.fs 2 xs fl] [] k =
  aIf (shOK (Sh.tup [Sh.ints IntKind.u8, Sh.int IntKind.i64]) (R36 [AV.fs 2 xs fl])) (aIf ((List.flatMap AV.cells (sel (R36 [AV.fs 2 xs fl]) [0]).toFs).length == (sel (R36 [AV.fs 2 xs fl]) [0]).toFs.length * 1) (aIf (decide (16 ≤ c0.length)) (aIf ((c0.getD 0 AV.junk).isInt IntKind.u8) (aIf ((c0.getD 1 AV.junk).isInt IntKind.u8) (aIf ((c0.getD 2 AV.junk).isInt IntKind.u8) (aIf ((c0.getD 3 AV.junk).isInt IntKind.u8) (aIf ((c0.getD 4 AV.junk).isInt IntKind.u8) (aIf ((c0.getD 5 AV.junk).isInt IntKind.u8) (aIf ((c0.getD 6 AV.junk).isInt IntKind.u8) (aIf ((c0.getD 7 AV.junk).isInt IntKind.u8) (aIf ((c0.getD 8 AV.junk).isInt IntKind.u8) (aIf ((c0.getD 9 AV.junk).isInt IntKind.u8) (aIf ((c0.getD 10 AV.junk).isInt IntKind.u8) (aIf ((c0.getD 11 AV.junk).isInt IntKind.u8) (aIf ((c0.getD 12 AV.junk).isInt IntKind.u8) (aIf ((c0.getD 13 AV.junk).isInt IntKind.u8) (aIf ((c0.getD 14 AV.junk).isInt IntKind.u8) (aIf ((c0.getD 15 AV.junk).isInt IntKind.u8) (k (AEnd.ret (AV.agg [AV.int IntKind.u8 (c0.getD 0 AV.junk).toInt, AV.int IntKind.u8 (c0.getD 1 AV.junk).toInt, AV.int IntKind.u8 (c0.getD 2 AV.junk).toInt, AV.int IntKind.u8 (c0.getD 3 AV.junk).toInt, AV.int IntKind.u8 (c0.getD 4 AV.junk).toInt, AV.int IntKind.u8 (c0.getD 5 AV.junk).toInt, AV.int IntKind.u8 (c0.getD 6 AV.junk).toInt, AV.int IntKind.u8 (c0.getD 7 AV.junk).toInt, AV.int IntKind.u8 (c0.getD 8 AV.junk).toInt, AV.int IntKind.u8 (c0.getD 9 AV.junk).toInt, AV.int IntKind.u8 (c0.getD 10 AV.junk).toInt, AV.int IntKind.u8 (c0.getD 11 AV.junk).toInt, AV.int IntKind.u8 (c0.getD 12 AV.junk).toInt, AV.int IntKind.u8 (c0.getD 13 AV.junk).toInt, AV.int IntKind.u8 (c0.getD 14 AV.junk).toInt, AV.int IntKind.u8 (c0.getD 15 AV.junk).toInt])) []) none) none) none) none) none) none) none) none) none) none) none) none) none) none) none) none) none) none) none := by subst gc0; kernel_rfl
theorem S35_ok : SpecOK Tryd.prog 35 S35 := by
  refine B35_ok.turn fun args H => ?_
  unfold S35
  split
  · rename_i xs fl
    rcases Bool.eq_false_or_eq_true (runsB xs && Nat.ble xs.length 65536) with hp | hp
    · refine .inr fun k => ?_
      rw [aIf_pos hp]
      rw [Bool.and_eq_true] at hp
      obtain ⟨fl', e⟩ := R36_is (fl := fl) hp.1 (Nat.le_of_ble_eq_true hp.2)
      have hs : ∀ (bs : List AV) (c : Int), (sel (some (AEnd.ret (AV.tup [AV.fs 1 bs fl', AV.int .i64 c]), [])) [0]).toFs = bs := fun _ _ => rfl
      have hu := catX_u8 xs
      have hpu := padC_u8 (L := 16) hu
      have hpl := padC_length 16 (catX xs)
      have hi : ∀ k, k < 16 → ((padC 16 (catX xs)).getD k .junk).isInt .u8 = true := fun k hk => u8_isInt hpu (by rw [hpl]; exact hk)
      have hce : inK .i64 (catE xs) = true := by
        unfold catE
        rcases badE_cases xs xs.length 0 with h | h | h <;> rw [h]
        · cases Nat.ble (sumR xs xs.length) 65536 <;> rfl
        · rfl
        · rfl
      have hpd : padC 16 (catX xs) = [] ++ List.take (min (sel (R36 [AV.fs 2 xs fl]) [0]).toFs.length 16 * 1) (List.flatMap AV.cells (sel (R36 [AV.fs 2 xs fl]) [0]).toFs) ++ List.drop (0 + min (sel (R36 [AV.fs 2 xs fl]) [0]).toFs.length 16 * 1) [AV.int IntKind.u8 0, AV.int IntKind.u8 0, AV.int IntKind.u8 0, AV.int IntKind.u8 0, AV.int IntKind.u8 0, AV.int IntKind.u8 0, AV.int IntKind.u8 0, AV.int IntKind.u8 0, AV.int IntKind.u8 0, AV.int IntKind.u8 0, AV.int IntKind.u8 0, AV.int IntKind.u8 0, AV.int IntKind.u8 0, AV.int IntKind.u8 0, AV.int IntKind.u8 0, AV.int IntKind.u8 0] := by
        rw [e, hs, ints_cells hu]
        unfold padC; rw [Nat.mul_one, Nat.zero_add]; rfl
      rw [N35 xs fl k hpd, e]
      simp only [hs, ints_cells hu]
      simp only [hpl, hi 0 (by decide), hi 1 (by decide), hi 2 (by decide), hi 3 (by decide), hi 4 (by decide), hi 5 (by decide), hi 6 (by decide), hi 7 (by decide), hi 8 (by decide), hi 9 (by decide), hi 10 (by decide), hi 11 (by decide), hi 12 (by decide), hi 13 (by decide), hi 14 (by decide), hi 15 (by decide),
        shOK_ret, has_tup, hasL_cons, hasL_nil, has_ints, has_int, hu, hce, List.getD_cons_zero, List.getD_cons_succ, List.length_cons, List.length_nil, Nat.mul_one, beq_self_eq_true, Bool.and_self, aIf_true, decide_eq_true (Nat.le_refl 16)]
      rfl
    · exact .inl fun k => by rw [aIf_neg hp]
  · exact .inl fun k => rfl
theorem En35 : Enters Tryd.prog 35 := ⟨_, Tryd.func35, by decide, rfl⟩
theorem R35_ex : ∃ R : List AV → Res, ∀ args, R args = S35 args [] encK := ⟨_, fun _ => rfl⟩
noncomputable def R35 : List AV → Res := Classical.choose R35_ex
theorem R35_eq (args : List AV) : R35 args = S35 args [] encK := Classical.choose_spec R35_ex args
noncomputable def V35 : FSpec := leafK (.agg [.int .u8, .int .u8, .int .u8, .int .u8, .int .u8, .int .u8, .int .u8, .int .u8, .int .u8, .int .u8, .int .u8, .int .u8, .int .u8, .int .u8, .int .u8, .int .u8]) R35
theorem V35_ok : SpecOK Tryd.prog 35 V35 := leafK_ok S35_ok R35_eq
theorem R35_is {xs : List AV} {fl : SF} (hr : runsB xs = true) (hl : xs.length ≤ 65536) : R35 [.fs 2 xs fl] = some (.ret (.agg (padC 16 (catX xs))), []) := by
  refine (R35_eq _).trans ?_
  refine (aIf_pos (by rw [hr, Nat.ble_eq_true_of_le hl]; rfl)).trans ?_
  exact congrArg (fun c => some (AEnd.ret (AV.agg c), [])) (bytes16 (padC_u8 (catX_u8 xs)) (padC_length _ _)).symm

/-- ferryman/mapping.Edge -/
noncomputable def Q36 : FSpec := fun args H k => match args, H with
  | [.fs 2 xs fl], [] => aIf (runsB xs && Nat.ble xs.length 65536 && sumR xs xs.length == 32 && catE xs == 0) (k (.ret (.tup [.fs 1 [.int .u8 (byteAt (catX xs) 0), .int .u8 (byteAt (catX xs) 1), .int .u8 (byteAt (catX xs) 2), .int .u8 (byteAt (catX xs) 3)] (sel (R36 [.fs 2 xs fl]) [0]).toFl, .int .i64 0])) []) none
  | _, _ => none
theorem Q36_ok : SpecOK Tryd.prog 36 Q36 := by
  refine V36_ok.turn fun args H => ?_
  unfold Q36
  split
  · rename_i xs fl
    rcases Bool.eq_false_or_eq_true (runsB xs && Nat.ble xs.length 65536 && sumR xs xs.length == 32 && catE xs == 0) with hp | hp
    · refine .inr fun k => ?_
      rw [aIf_pos hp]
      simp only [Bool.and_eq_true, beq_iff_eq] at hp
      obtain ⟨⟨⟨h1, h2⟩, h3⟩, h4⟩ := hp
      obtain ⟨fl', e⟩ := R36_is (fl := fl) h1 (Nat.le_of_ble_eq_true h2)
      have hv : V36 [.fs 2 xs fl] [] k = aIf (shOK (.tup [.ints .u8, .int .i64]) (R36 [.fs 2 xs fl])) (k (.ret ((Sh.tup [.ints .u8, .int .i64]).re (R36 [.fs 2 xs fl]) [])) []) none := rfl
      have hu := catX_u8 xs
      have hb := bytes4 hu (catX_four h3 h4)
      rw [hv, e, h4]
      rw [aIf_pos (by simp only [shOK_ret, has_tup, hasL_cons, hasL_nil, has_ints, hu, List.getD_cons_zero, List.getD_cons_succ, List.length_cons, List.length_nil, beq_self_eq_true, Bool.and_self]; rfl)]
      exact congrArg (fun c => k (.ret (.tup [.fs 1 c fl', .int .i64 0])) []) hb.symm
    · exact .inl fun k => by rw [aIf_neg hp]
  · exact .inl fun k => rfl
noncomputable def T10 : List (FuncId × FSpec) := [(17, V17), (33, S33), (34, V34), (35, V35), (36, Q36), (37, V37)]
theorem T10_ok : TabOK Tryd.prog T10 := TabOK.cons En17 V17_ok (TabOK.cons En33 S33_ok (TabOK.cons En34 V34_ok (TabOK.cons En35 V35_ok (TabOK.cons En36 Q36_ok (TabOK.cons En37 V37_ok (TabOK.nil _))))))
noncomputable def C10 : Ctx := (ctx E T10 [] [(0, [1, 2, 4]), (1, [1, 2, 4, 6]), (2, [1, 2, 4, 6, 20]), (3, [4, 5]), (4, [1, 2, 4, 27]), (5, [4, 5]), (6, [1, 2, 4, 7, 8]), (7, [1, 2, 4, 7, 8, 9]), (8, [1, 2, 4, 7, 8, 9, 10]), (9, [1, 2, 4, 7, 8, 9, 10, 11]), (10, [1, 2, 4, 7, 8, 9, 10, 11, 12]), (11, [1, 2, 4, 8, 9, 10, 11, 12, 13]), (12, [1, 2, 4, 8, 9, 10, 11, 12]), (13, [1, 2, 4, 8, 9, 10, 11]), (14, [1, 2, 4, 8, 9, 10, 11, 95]), (15, [4, 9, 10, 11]), (16, [4, 9, 10, 11, 15]), (17, [4, 11]), (18, [4, 5])] [1000034, 1000037] 133 70)
theorem C10_ok : CtxOK Tryd.prog C10 := ctx_ok E_ok E_flds mixed T10_ok
noncomputable def S10 : FSpec := inlineK C10 Tryd.f10
theorem S10_ok : SpecOK Tryd.prog 10 S10 := inlineK_ok C10_ok Tryd.func10 (fun _ _ => LoopsOK.none _)
theorem En10 : Enters Tryd.prog 10 := ⟨_, Tryd.func10, by decide, rfl⟩
noncomputable def R10 (args : List AV) : Res := S10 args [] encK
noncomputable def V10 : FSpec := leafK (.tup [.agg [.int .u8, .int .u8, .int .u8, .int .u8, .int .i64, .int .i64, .int .i64, .int .u16, .int .u8, .int .u8, .int .u8, .int .u8, .int .u8, .int .u8, .int .u8, .int .u8, .int .u8, .int .u8, .int .u8, .int .u8, .int .u8, .int .u8, .int .u8, .int .u8, .int .i64, .int .u8, .int .u8, .int .u8, .int .u8, .int .u8, .int .u8, .int .u8, .int .u8, .int .u8, .int .u8, .int .u8, .int .u8, .int .u8, .int .u8, .int .u8, .int .u8], .int .i64]) R10
theorem V10_ok : SpecOK Tryd.prog 10 V10 := leafK_ok S10_ok (fun _ => rfl)
theorem N10 (x z : Nat → Int) (n m e o : Int) (f : Bool) (a : Int)
    {r0 : _} (h0 : r0 = R17 [AV.agg [AV.int IntKind.u8 (x 0), AV.int IntKind.u8 (x 1), AV.int IntKind.u8 (x 2), AV.int IntKind.u8 (x 3), AV.int IntKind.u8 (x 4), AV.int IntKind.u8 (x 5), AV.int IntKind.u8 (x 6), AV.int IntKind.u8 (x 7), AV.int IntKind.u8 (x 8), AV.int IntKind.u8 (x 9), AV.int IntKind.u8 (x 10), AV.int IntKind.u8 (x 11), AV.int IntKind.u8 (x 12), AV.int IntKind.u8 (x 13), AV.int IntKind.u8 (x 14), AV.int IntKind.u8 (x 15), AV.int IntKind.i64 n, AV.int IntKind.u8 (z 0), AV.int IntKind.u8 (z 1), AV.int IntKind.u8 (z 2), AV.int IntKind.u8 (z 3), AV.int IntKind.i64 m, AV.int IntKind.i64 e, AV.int IntKind.i64 o, AV.bool f]])
    {r1 : _} (h1 : r1 = R34 [AV.fs 1 [AV.int IntKind.u8 (x 0), AV.int IntKind.u8 (x 1), AV.int IntKind.u8 (x 2), AV.int IntKind.u8 (x 3), AV.int IntKind.u8 (x 4), AV.int IntKind.u8 (x 5), AV.int IntKind.u8 (x 6), AV.int IntKind.u8 (x 7), AV.int IntKind.u8 (x 8), AV.int IntKind.u8 (x 9), AV.int IntKind.u8 (x 10), AV.int IntKind.u8 (x 11), AV.int IntKind.u8 (x 12), AV.int IntKind.u8 (x 13), AV.int IntKind.u8 (x 14), AV.int IntKind.u8 (x 15)] SF.any, AV.int IntKind.i64 n])
    {r2 : _} (h2 : r2 = R35 [AV.fs 2 [AV.agg [AV.int IntKind.i64 (sel r1 [0]).toInt, AV.int IntKind.u64 (sel r1 [1]).toInt], AV.agg [AV.int IntKind.i64 e, AV.int IntKind.u64 a]] SF.any])
    {r3 : _} (h3 : r3 = R34 [AV.fs 1 [AV.int IntKind.u8 (z 0), AV.int IntKind.u8 (z 1), AV.int IntKind.u8 (z 2), AV.int IntKind.u8 (z 3)] SF.any, AV.int IntKind.i64 m])
    {r5 : _} (h5 : r5 = Pl.catX [AV.agg [AV.int IntKind.i64 (sel r3 [0]).toInt, AV.int IntKind.u64 (sel r3 [1]).toInt], AV.agg [AV.int IntKind.i64 (IntKind.i64.wrap (e - if IntKind.i64.wrap (e - IntKind.i64.wrap (32 - m)) > 0 then IntKind.i64.wrap (e - IntKind.i64.wrap (32 - m)) else 0)), AV.int IntKind.u64 (a.fdiv (2 ^ min (if IntKind.i64.wrap (e - IntKind.i64.wrap (32 - m)) > 0 then IntKind.i64.wrap (e - IntKind.i64.wrap (32 - m)) else 0).toNat 64))], AV.agg [AV.int IntKind.i64 (IntKind.i64.wrap (IntKind.i64.wrap (32 - m) - IntKind.i64.wrap (e - if IntKind.i64.wrap (e - IntKind.i64.wrap (32 - m)) > 0 then IntKind.i64.wrap (e - IntKind.i64.wrap (32 - m)) else 0))), AV.int IntKind.u64 0]])
    {r6 : _} (h6 : r6 = R37 [AV.fs 1 [AV.int IntKind.u8 (Pl.byteAt r5 0), AV.int IntKind.u8 (Pl.byteAt r5 1), AV.int IntKind.u8 (Pl.byteAt r5 2), AV.int IntKind.u8 (Pl.byteAt r5 3)] SF.any, AV.int IntKind.i64 0, AV.int IntKind.i64 32])
    {r7 : _} (h7 : r7 = R35 [AV.fs 2 [AV.agg [AV.int IntKind.i64 (sel r1 [0]).toInt, AV.int IntKind.u64 (sel r1 [1]).toInt], AV.agg [AV.int IntKind.i64 e, AV.int IntKind.u64 a], AV.agg [AV.int IntKind.i64 (IntKind.i64.wrap (64 - IntKind.i64.wrap (n + e))), AV.int IntKind.u64 0], AV.agg [AV.int IntKind.i64 16, AV.int IntKind.u64 0], AV.agg [AV.int IntKind.i64 32, AV.int IntKind.u64 (sel r6 [0]).toInt], AV.agg [AV.int IntKind.i64 16, AV.int IntKind.u64 (IntKind.u64.wrap (IntKind.u16.wrap (IntKind.u64.wrap (↑(BitVec.ofInt 64 a &&& BitVec.ofInt 64 (IntKind.u64.wrap (IntKind.u64.wrap (1 * 2 ^ min (if IntKind.i64.wrap (e - IntKind.i64.wrap (32 - m)) > 0 then IntKind.i64.wrap (e - IntKind.i64.wrap (32 - m)) else 0).toNat 64) - 1))).toNat : Int))))]] SF.any])
    {r8 : _} (h8 : r8 = R35 [AV.fs 2 [AV.agg [AV.int IntKind.i64 (sel r1 [0]).toInt, AV.int IntKind.u64 (sel r1 [1]).toInt], AV.agg [AV.int IntKind.i64 e, AV.int IntKind.u64 a], AV.agg [AV.int IntKind.i64 (IntKind.i64.wrap (64 - IntKind.i64.wrap (n + e))), AV.int IntKind.u64 0], AV.agg [AV.int IntKind.i64 16, AV.int IntKind.u64 0], AV.agg [AV.int IntKind.i64 32, AV.int IntKind.u64 (sel r6 [0]).toInt], AV.agg [AV.int IntKind.i64 16, AV.int IntKind.u64 0]] SF.any]) :
  S10 [.agg [.int .u8 (x 0), .int .u8 (x 1), .int .u8 (x 2), .int .u8 (x 3), .int .u8 (x 4), .int .u8 (x 5), .int .u8 (x 6), .int .u8 (x 7), .int .u8 (x 8), .int .u8 (x 9), .int .u8 (x 10), .int .u8 (x 11), .int .u8 (x 12), .int .u8 (x 13), .int .u8 (x 14), .int .u8 (x 15), .int .i64 n, .int .u8 (z 0), .int .u8 (z 1), .int .u8 (z 2), .int .u8 (z 3), .int .i64 m, .int .i64 e, .int .i64 o, .bool f], .int .u64 a] [] encK =
  aIf (shOK (Sh.int IntKind.i64) r0) (aIf ((sel r0 []).toInt != 0) (some (AEnd.ret (AV.tup [AV.agg [AV.int IntKind.u8 0, AV.int IntKind.u8 0, AV.int IntKind.u8 0, AV.int IntKind.u8 0, AV.int IntKind.i64 0, AV.int IntKind.i64 0, AV.int IntKind.i64 0, AV.int IntKind.u16 0, AV.int IntKind.u8 0, AV.int IntKind.u8 0, AV.int IntKind.u8 0, AV.int IntKind.u8 0, AV.int IntKind.u8 0, AV.int IntKind.u8 0, AV.int IntKind.u8 0, AV.int IntKind.u8 0, AV.int IntKind.u8 0, AV.int IntKind.u8 0, AV.int IntKind.u8 0, AV.int IntKind.u8 0, AV.int IntKind.u8 0, AV.int IntKind.u8 0, AV.int IntKind.u8 0, AV.int IntKind.u8 0, AV.int IntKind.i64 0, AV.int IntKind.u8 0, AV.int IntKind.u8 0, AV.int IntKind.u8 0, AV.int IntKind.u8 0, AV.int IntKind.u8 0, AV.int IntKind.u8 0, AV.int IntKind.u8 0, AV.int IntKind.u8 0, AV.int IntKind.u8 0, AV.int IntKind.u8 0, AV.int IntKind.u8 0, AV.int IntKind.u8 0, AV.int IntKind.u8 0, AV.int IntKind.u8 0, AV.int IntKind.u8 0, AV.int IntKind.u8 0], AV.int IntKind.i64 (sel r0 []).toInt]), [])) (aIf (decide (e < 0)) none (aIf (a.fdiv (2 ^ min e.toNat 64) != 0) (some (AEnd.ret (AV.tup [AV.agg [AV.int IntKind.u8 0, AV.int IntKind.u8 0, AV.int IntKind.u8 0, AV.int IntKind.u8 0, AV.int IntKind.i64 0, AV.int IntKind.i64 0, AV.int IntKind.i64 0, AV.int IntKind.u16 0, AV.int IntKind.u8 0, AV.int IntKind.u8 0, AV.int IntKind.u8 0, AV.int IntKind.u8 0, AV.int IntKind.u8 0, AV.int IntKind.u8 0, AV.int IntKind.u8 0, AV.int IntKind.u8 0, AV.int IntKind.u8 0, AV.int IntKind.u8 0, AV.int IntKind.u8 0, AV.int IntKind.u8 0, AV.int IntKind.u8 0, AV.int IntKind.u8 0, AV.int IntKind.u8 0, AV.int IntKind.u8 0, AV.int IntKind.i64 0, AV.int IntKind.u8 0, AV.int IntKind.u8 0, AV.int IntKind.u8 0, AV.int IntKind.u8 0, AV.int IntKind.u8 0, AV.int IntKind.u8 0, AV.int IntKind.u8 0, AV.int IntKind.u8 0, AV.int IntKind.u8 0, AV.int IntKind.u8 0, AV.int IntKind.u8 0, AV.int IntKind.u8 0, AV.int IntKind.u8 0, AV.int IntKind.u8 0, AV.int IntKind.u8 0, AV.int IntKind.u8 0], AV.int IntKind.i64 101]), [])) (aIf (shOK (Sh.agg [Sh.int IntKind.i64, Sh.int IntKind.u64]) r1) (aIf (shOK (Sh.agg [Sh.int IntKind.u8, Sh.int IntKind.u8, Sh.int IntKind.u8, Sh.int IntKind.u8, Sh.int IntKind.u8, Sh.int IntKind.u8, Sh.int IntKind.u8, Sh.int IntKind.u8, Sh.int IntKind.u8, Sh.int IntKind.u8, Sh.int IntKind.u8, Sh.int IntKind.u8, Sh.int IntKind.u8, Sh.int IntKind.u8, Sh.int IntKind.u8, Sh.int IntKind.u8]) r2) (aIf (shOK (Sh.agg [Sh.int IntKind.i64, Sh.int IntKind.u64]) r3) (aIf (decide ((if IntKind.i64.wrap (e - IntKind.i64.wrap (32 - m)) > 0 then IntKind.i64.wrap (e - IntKind.i64.wrap (32 - m)) else 0) < 0)) none (aIf (Pl.runsB [AV.agg [AV.int IntKind.i64 (sel r3 [0]).toInt, AV.int IntKind.u64 (sel r3 [1]).toInt], AV.agg [AV.int IntKind.i64 (IntKind.i64.wrap (e - if IntKind.i64.wrap (e - IntKind.i64.wrap (32 - m)) > 0 then IntKind.i64.wrap (e - IntKind.i64.wrap (32 - m)) else 0)), AV.int IntKind.u64 (a.fdiv (2 ^ min (if IntKind.i64.wrap (e - IntKind.i64.wrap (32 - m)) > 0 then IntKind.i64.wrap (e - IntKind.i64.wrap (32 - m)) else 0).toNat 64))], AV.agg [AV.int IntKind.i64 (IntKind.i64.wrap (IntKind.i64.wrap (32 - m) - IntKind.i64.wrap (e - if IntKind.i64.wrap (e - IntKind.i64.wrap (32 - m)) > 0 then IntKind.i64.wrap (e - IntKind.i64.wrap (32 - m)) else 0))), AV.int IntKind.u64 0]] && true && Pl.sumR [AV.agg [AV.int IntKind.i64 (sel r3 [0]).toInt, AV.int IntKind.u64 (sel r3 [1]).toInt], AV.agg [AV.int IntKind.i64 (IntKind.i64.wrap (e - if IntKind.i64.wrap (e - IntKind.i64.wrap (32 - m)) > 0 then IntKind.i64.wrap (e - IntKind.i64.wrap (32 - m)) else 0)), AV.int IntKind.u64 (a.fdiv (2 ^ min (if IntKind.i64.wrap (e - IntKind.i64.wrap (32 - m)) > 0 then IntKind.i64.wrap (e - IntKind.i64.wrap (32 - m)) else 0).toNat 64))], AV.agg [AV.int IntKind.i64 (IntKind.i64.wrap (IntKind.i64.wrap (32 - m) - IntKind.i64.wrap (e - if IntKind.i64.wrap (e - IntKind.i64.wrap (32 - m)) > 0 then IntKind.i64.wrap (e - IntKind.i64.wrap (32 - m)) else 0))), AV.int IntKind.u64 0]] 3 == 32 && Pl.catE [AV.agg [AV.int IntKind.i64 (sel r3 [0]).toInt, AV.int IntKind.u64 (sel r3 [1]).toInt], AV.agg [AV.int IntKind.i64 (IntKind.i64.wrap (e - if IntKind.i64.wrap (e - IntKind.i64.wrap (32 - m)) > 0 then IntKind.i64.wrap (e - IntKind.i64.wrap (32 - m)) else 0)), AV.int IntKind.u64 (a.fdiv (2 ^ min (if IntKind.i64.wrap (e - IntKind.i64.wrap (32 - m)) > 0 then IntKind.i64.wrap (e - IntKind.i64.wrap (32 - m)) else 0).toNat 64))], AV.agg [AV.int IntKind.i64 (IntKind.i64.wrap (IntKind.i64.wrap (32 - m) - IntKind.i64.wrap (e - if IntKind.i64.wrap (e - IntKind.i64.wrap (32 - m)) > 0 then IntKind.i64.wrap (e - IntKind.i64.wrap (32 - m)) else 0))), AV.int IntKind.u64 0]] == 0) (aIf (decide ((if IntKind.i64.wrap (e - IntKind.i64.wrap (32 - m)) > 0 then IntKind.i64.wrap (e - IntKind.i64.wrap (32 - m)) else 0) > 0)) (aIf (decide ((if IntKind.i64.wrap (e - IntKind.i64.wrap (32 - m)) > 0 then IntKind.i64.wrap (e - IntKind.i64.wrap (32 - m)) else 0) < 0)) none (aIf (shOK (Sh.tup [Sh.int IntKind.u64, Sh.int IntKind.i64]) r6) (aIf (shOK (Sh.agg [Sh.int IntKind.u8, Sh.int IntKind.u8, Sh.int IntKind.u8, Sh.int IntKind.u8, Sh.int IntKind.u8, Sh.int IntKind.u8, Sh.int IntKind.u8, Sh.int IntKind.u8, Sh.int IntKind.u8, Sh.int IntKind.u8, Sh.int IntKind.u8, Sh.int IntKind.u8, Sh.int IntKind.u8, Sh.int IntKind.u8, Sh.int IntKind.u8, Sh.int IntKind.u8]) r7) (some (AEnd.ret (AV.tup [AV.agg [AV.int IntKind.u8 (Pl.byteAt r5 0), AV.int IntKind.u8 (Pl.byteAt r5 1), AV.int IntKind.u8 (Pl.byteAt r5 2), AV.int IntKind.u8 (Pl.byteAt r5 3), AV.int IntKind.i64 (IntKind.i64.wrap (m + IntKind.i64.wrap (e - if IntKind.i64.wrap (e - IntKind.i64.wrap (32 - m)) > 0 then IntKind.i64.wrap (e - IntKind.i64.wrap (32 - m)) else 0))), AV.int IntKind.i64 o, AV.int IntKind.i64 (if IntKind.i64.wrap (e - IntKind.i64.wrap (32 - m)) > 0 then IntKind.i64.wrap (e - IntKind.i64.wrap (32 - m)) else 0), AV.int IntKind.u16 (IntKind.u16.wrap (IntKind.u64.wrap (↑(BitVec.ofInt 64 a &&& BitVec.ofInt 64 (IntKind.u64.wrap (IntKind.u64.wrap (1 * 2 ^ min (if IntKind.i64.wrap (e - IntKind.i64.wrap (32 - m)) > 0 then IntKind.i64.wrap (e - IntKind.i64.wrap (32 - m)) else 0).toNat 64) - 1))).toNat : Int))), AV.int IntKind.u8 (sel r2 [0]).toInt, AV.int IntKind.u8 (sel r2 [1]).toInt, AV.int IntKind.u8 (sel r2 [2]).toInt, AV.int IntKind.u8 (sel r2 [3]).toInt, AV.int IntKind.u8 (sel r2 [4]).toInt, AV.int IntKind.u8 (sel r2 [5]).toInt, AV.int IntKind.u8 (sel r2 [6]).toInt, AV.int IntKind.u8 (sel r2 [7]).toInt, AV.int IntKind.u8 (sel r2 [8]).toInt, AV.int IntKind.u8 (sel r2 [9]).toInt, AV.int IntKind.u8 (sel r2 [10]).toInt, AV.int IntKind.u8 (sel r2 [11]).toInt, AV.int IntKind.u8 (sel r2 [12]).toInt, AV.int IntKind.u8 (sel r2 [13]).toInt, AV.int IntKind.u8 (sel r2 [14]).toInt, AV.int IntKind.u8 (sel r2 [15]).toInt, AV.int IntKind.i64 (IntKind.i64.wrap (n + e)), AV.int IntKind.u8 (sel r7 [0]).toInt, AV.int IntKind.u8 (sel r7 [1]).toInt, AV.int IntKind.u8 (sel r7 [2]).toInt, AV.int IntKind.u8 (sel r7 [3]).toInt, AV.int IntKind.u8 (sel r7 [4]).toInt, AV.int IntKind.u8 (sel r7 [5]).toInt, AV.int IntKind.u8 (sel r7 [6]).toInt, AV.int IntKind.u8 (sel r7 [7]).toInt, AV.int IntKind.u8 (sel r7 [8]).toInt, AV.int IntKind.u8 (sel r7 [9]).toInt, AV.int IntKind.u8 (sel r7 [10]).toInt, AV.int IntKind.u8 (sel r7 [11]).toInt, AV.int IntKind.u8 (sel r7 [12]).toInt, AV.int IntKind.u8 (sel r7 [13]).toInt, AV.int IntKind.u8 (sel r7 [14]).toInt, AV.int IntKind.u8 (sel r7 [15]).toInt], AV.int IntKind.i64 0]), [])) none) none)) (aIf (shOK (Sh.tup [Sh.int IntKind.u64, Sh.int IntKind.i64]) r6) (aIf (shOK (Sh.agg [Sh.int IntKind.u8, Sh.int IntKind.u8, Sh.int IntKind.u8, Sh.int IntKind.u8, Sh.int IntKind.u8, Sh.int IntKind.u8, Sh.int IntKind.u8, Sh.int IntKind.u8, Sh.int IntKind.u8, Sh.int IntKind.u8, Sh.int IntKind.u8, Sh.int IntKind.u8, Sh.int IntKind.u8, Sh.int IntKind.u8, Sh.int IntKind.u8, Sh.int IntKind.u8]) r8) (some (AEnd.ret (AV.tup [AV.agg [AV.int IntKind.u8 (Pl.byteAt r5 0), AV.int IntKind.u8 (Pl.byteAt r5 1), AV.int IntKind.u8 (Pl.byteAt r5 2), AV.int IntKind.u8 (Pl.byteAt r5 3), AV.int IntKind.i64 (IntKind.i64.wrap (m + IntKind.i64.wrap (e - if IntKind.i64.wrap (e - IntKind.i64.wrap (32 - m)) > 0 then IntKind.i64.wrap (e - IntKind.i64.wrap (32 - m)) else 0))), AV.int IntKind.i64 0, AV.int IntKind.i64 0, AV.int IntKind.u16 0, AV.int IntKind.u8 (sel r2 [0]).toInt, AV.int IntKind.u8 (sel r2 [1]).toInt, AV.int IntKind.u8 (sel r2 [2]).toInt, AV.int IntKind.u8 (sel r2 [3]).toInt, AV.int IntKind.u8 (sel r2 [4]).toInt, AV.int IntKind.u8 (sel r2 [5]).toInt, AV.int IntKind.u8 (sel r2 [6]).toInt, AV.int IntKind.u8 (sel r2 [7]).toInt, AV.int IntKind.u8 (sel r2 [8]).toInt, AV.int IntKind.u8 (sel r2 [9]).toInt, AV.int IntKind.u8 (sel r2 [10]).toInt, AV.int IntKind.u8 (sel r2 [11]).toInt, AV.int IntKind.u8 (sel r2 [12]).toInt, AV.int IntKind.u8 (sel r2 [13]).toInt, AV.int IntKind.u8 (sel r2 [14]).toInt, AV.int IntKind.u8 (sel r2 [15]).toInt, AV.int IntKind.i64 (IntKind.i64.wrap (n + e)), AV.int IntKind.u8 (sel r8 [0]).toInt, AV.int IntKind.u8 (sel r8 [1]).toInt, AV.int IntKind.u8 (sel r8 [2]).toInt, AV.int IntKind.u8 (sel r8 [3]).toInt, AV.int IntKind.u8 (sel r8 [4]).toInt, AV.int IntKind.u8 (sel r8 [5]).toInt, AV.int IntKind.u8 (sel r8 [6]).toInt, AV.int IntKind.u8 (sel r8 [7]).toInt, AV.int IntKind.u8 (sel r8 [8]).toInt, AV.int IntKind.u8 (sel r8 [9]).toInt, AV.int IntKind.u8 (sel r8 [10]).toInt, AV.int IntKind.u8 (sel r8 [11]).toInt, AV.int IntKind.u8 (sel r8 [12]).toInt, AV.int IntKind.u8 (sel r8 [13]).toInt, AV.int IntKind.u8 (sel r8 [14]).toInt, AV.int IntKind.u8 (sel r8 [15]).toInt], AV.int IntKind.i64 0]), [])) none) none)) none)) none) none) none)))) none := by subst h0 h1 h2 h3 h5 h6 h7 h8; kernel_rfl
set_option maxRecDepth 20000 in
set_option maxHeartbeats 2000000 in
theorem R10_is {x z : Nat → Int} {n m e o : Int} {f : Bool} {a : Int} (hx : b8 x) (hz : b8 z) (ho : inK .i64 o = true) (h0 : 0 ≤ a) (h1 : a < 18446744073709551616) : R10 [.agg [.int .u8 (x 0), .int .u8 (x 1), .int .u8 (x 2), .int .u8 (x 3), .int .u8 (x 4), .int .u8 (x 5), .int .u8 (x 6), .int .u8 (x 7), .int .u8 (x 8), .int .u8 (x 9), .int .u8 (x 10), .int .u8 (x 11), .int .u8 (x 12), .int .u8 (x 13), .int .u8 (x 14), .int .u8 (x 15), .int .i64 n, .int .u8 (z 0), .int .u8 (z 1), .int .u8 (z 2), .int .u8 (z 3), .int .i64 m, .int .i64 e, .int .i64 o, .bool f], .int .u64 a] = some (.ret (.tup [edgW [.int .u8 (x 0), .int .u8 (x 1), .int .u8 (x 2), .int .u8 (x 3), .int .u8 (x 4), .int .u8 (x 5), .int .u8 (x 6), .int .u8 (x 7), .int .u8 (x 8), .int .u8 (x 9), .int .u8 (x 10), .int .u8 (x 11), .int .u8 (x 12), .int .u8 (x 13), .int .u8 (x 14), .int .u8 (x 15)] [.int .u8 (z 0), .int .u8 (z 1), .int .u8 (z 2), .int .u8 (z 3)] n m e o a, .int .i64 (edgE [.int .u8 (x 0), .int .u8 (x 1), .int .u8 (x 2), .int .u8 (x 3), .int .u8 (x 4), .int .u8 (x 5), .int .u8 (x 6), .int .u8 (x 7), .int .u8 (x 8), .int .u8 (x 9), .int .u8 (x 10), .int .u8 (x 11), .int .u8 (x 12), .int .u8 (x 13), .int .u8 (x 14), .int .u8 (x 15)] [.int .u8 (z 0), .int .u8 (z 1), .int .u8 (z 2), .int .u8 (z 3)] n m e o a)]), []) := by
  show S10 _ [] encK = _
  have e0 := R17_is (n := n) (m := m) (e := e) (o := o) (f := f) hx hz
  rcases chkR_or [.int .u8 (x 0), .int .u8 (x 1), .int .u8 (x 2), .int .u8 (x 3), .int .u8 (x 4), .int .u8 (x 5), .int .u8 (x 6), .int .u8 (x 7), .int .u8 (x 8), .int .u8 (x 9), .int .u8 (x 10), .int .u8 (x 11), .int .u8 (x 12), .int .u8 (x 13), .int .u8 (x 14), .int .u8 (x 15)] [.int .u8 (z 0), .int .u8 (z 1), .int .u8 (z 2), .int .u8 (z 3)] n m e o with ⟨hc, ⟨a1, a2, a3⟩, ⟨b1, b2, b3⟩, c1, c2, c3, c4, c5⟩ | hc
  rotate_left
  · have hb : inK .i64 (chkR [.int .u8 (x 0), .int .u8 (x 1), .int .u8 (x 2), .int .u8 (x 3), .int .u8 (x 4), .int .u8 (x 5), .int .u8 (x 6), .int .u8 (x 7), .int .u8 (x 8), .int .u8 (x 9), .int .u8 (x 10), .int .u8 (x 11), .int .u8 (x 12), .int .u8 (x 13), .int .u8 (x 14), .int .u8 (x 15)] [.int .u8 (z 0), .int .u8 (z 1), .int .u8 (z 2), .int .u8 (z 3)] n m e o) = true ∧ ((chkR [.int .u8 (x 0), .int .u8 (x 1), .int .u8 (x 2), .int .u8 (x 3), .int .u8 (x 4), .int .u8 (x 5), .int .u8 (x 6), .int .u8 (x 7), .int .u8 (x 8), .int .u8 (x 9), .int .u8 (x 10), .int .u8 (x 11), .int .u8 (x 12), .int .u8 (x 13), .int .u8 (x 14), .int .u8 (x 15)] [.int .u8 (z 0), .int .u8 (z 1), .int .u8 (z 2), .int .u8 (z 3)] n m e o) != 0) = true := by rcases hc with hc | hc <;> rw [hc] <;> exact ⟨rfl, rfl⟩
    have hE : edgE [.int .u8 (x 0), .int .u8 (x 1), .int .u8 (x 2), .int .u8 (x 3), .int .u8 (x 4), .int .u8 (x 5), .int .u8 (x 6), .int .u8 (x 7), .int .u8 (x 8), .int .u8 (x 9), .int .u8 (x 10), .int .u8 (x 11), .int .u8 (x 12), .int .u8 (x 13), .int .u8 (x 14), .int .u8 (x 15)] [.int .u8 (z 0), .int .u8 (z 1), .int .u8 (z 2), .int .u8 (z 3)] n m e o a = chkR [.int .u8 (x 0), .int .u8 (x 1), .int .u8 (x 2), .int .u8 (x 3), .int .u8 (x 4), .int .u8 (x 5), .int .u8 (x 6), .int .u8 (x 7), .int .u8 (x 8), .int .u8 (x 9), .int .u8 (x 10), .int .u8 (x 11), .int .u8 (x 12), .int .u8 (x 13), .int .u8 (x 14), .int .u8 (x 15)] [.int .u8 (z 0), .int .u8 (z 1), .int .u8 (z 2), .int .u8 (z 3)] n m e o := by unfold edgE; rw [hb.2]; rfl
    rw [N10 x z n m e o f a e0.symm rfl rfl rfl rfl rfl rfl rfl]
    refine (aIf_pos (by rw [shOK_ret, has_int]; exact hb.1)).trans ((aIf_pos hb.2).trans ?_)
    unfold edgW
    rw [hE]
    rcases hc with hc | hc <;> rw [hc] <;> rfl
  have hmin : min e.toNat 64 = e.toNat := by omega
  by_cases he : a / 2 ^ e.toNat = 0
  rotate_left
  · have hE : edgE [.int .u8 (x 0), .int .u8 (x 1), .int .u8 (x 2), .int .u8 (x 3), .int .u8 (x 4), .int .u8 (x 5), .int .u8 (x 6), .int .u8 (x 7), .int .u8 (x 8), .int .u8 (x 9), .int .u8 (x 10), .int .u8 (x 11), .int .u8 (x 12), .int .u8 (x 13), .int .u8 (x 14), .int .u8 (x 15)] [.int .u8 (z 0), .int .u8 (z 1), .int .u8 (z 2), .int .u8 (z 3)] n m e o a = 101 := by unfold edgE; rw [hc, show (a / 2 ^ e.toNat != 0) = true from by simpa using he]; rfl
    rw [N10 x z n m e o f a e0.symm rfl rfl rfl rfl rfl rfl rfl]
    refine (aIf_pos (by rw [hc]; rfl)).trans ((aIf_neg (by rw [hc]; rfl)).trans ((aIf_neg (decide_eq_false (by omega))).trans ((aIf_pos (by rw [hmin, shr_eq]; simpa using he)).trans ?_)))
    unfold edgW
    rw [hE]
    rfl
  have hE : edgE [.int .u8 (x 0), .int .u8 (x 1), .int .u8 (x 2), .int .u8 (x 3), .int .u8 (x 4), .int .u8 (x 5), .int .u8 (x 6), .int .u8 (x 7), .int .u8 (x 8), .int .u8 (x 9), .int .u8 (x 10), .int .u8 (x 11), .int .u8 (x 12), .int .u8 (x 13), .int .u8 (x 14), .int .u8 (x 15)] [.int .u8 (z 0), .int .u8 (z 1), .int .u8 (z 2), .int .u8 (z 3)] n m e o a = 0 := by unfold edgE; rw [hc, he]; rfl
  have hok : okE n m e o a := ⟨a1, a2, b1, b2, c1, c2, c3, c4, c5, h0, h1, he⟩
  obtain ⟨q0, q1, q2, q3, q4, q5, q6, q7⟩ := qR_ok hok
  have w1 : IntKind.i64.wrap (32 - m) = 32 - m := i64_of (by omega) (by omega)
  have w2 : IntKind.i64.wrap (e - (32 - m)) = e - (32 - m) := i64_of (by omega) (by omega)
  have w3 : (if e - (32 - m) > 0 then e - (32 - m) else 0) = qR m e := rfl
  have w4 : IntKind.i64.wrap (e - qR m e) = e - qR m e := i64_of (by omega) (by omega)
  have w5 : IntKind.i64.wrap (32 - m - (e - qR m e)) = 32 - m - (e - qR m e) := i64_of (by omega) (by omega)
  have w6 : min (qR m e).toNat 64 = (qR m e).toNat := by omega
  have w7 : IntKind.i64.wrap (m + (e - qR m e)) = m + (e - qR m e) := i64_of (by omega) (by omega)
  have w8 : IntKind.i64.wrap (n + e) = n + e := i64_of (by omega) (by omega)
  have w9 : IntKind.i64.wrap (64 - (n + e)) = 64 - (n + e) := i64_of (by omega) (by omega)
  have hp := pow_le16 (n := (qR m e).toNat) (by omega)
  have wp : IntKind.u64.wrap ((BitVec.ofInt 64 a &&& BitVec.ofInt 64 (IntKind.u64.wrap (IntKind.u64.wrap (1 * 2 ^ (qR m e).toNat) - 1))).toNat : Int) = a % 2 ^ (qR m e).toNat := by
    have m0 := Int.emod_nonneg a (show (2 : Int) ^ (qR m e).toNat ≠ 0 by omega)
    have m1 := Int.emod_lt_of_pos a (show (0 : Int) < 2 ^ (qR m e).toNat by omega)
    rw [Int.one_mul, u64_of (n := 2 ^ (qR m e).toNat) (by omega) (by omega), u64_of (n := 2 ^ (qR m e).toNat - 1) (by omega) (by omega), and_mask64 h0 h1 (by omega), u64_of (by omega) (by omega)]
  have hpid := pidR_ok hok
  have eL := endL_ok (X := [.int .u8 (x 0), .int .u8 (x 1), .int .u8 (x 2), .int .u8 (x 3), .int .u8 (x 4), .int .u8 (x 5), .int .u8 (x 6), .int .u8 (x 7), .int .u8 (x 8), .int .u8 (x 9), .int .u8 (x 10), .int .u8 (x 11), .int .u8 (x 12), .int .u8 (x 13), .int .u8 (x 14), .int .u8 (x 15)]) rfl hok
  have vL := v4L_ok (Z := [.int .u8 (z 0), .int .u8 (z 1), .int .u8 (z 2), .int .u8 (z 3)]) rfl hok
  have oL := ownL_ok (X := [.int .u8 (x 0), .int .u8 (x 1), .int .u8 (x 2), .int .u8 (x 3), .int .u8 (x 4), .int .u8 (x 5), .int .u8 (x 6), .int .u8 (x 7), .int .u8 (x 8), .int .u8 (x 9), .int .u8 (x 10), .int .u8 (x 11), .int .u8 (x 12), .int .u8 (x 13), .int .u8 (x 14), .int .u8 (x 15)]) (Z := [.int .u8 (z 0), .int .u8 (z 1), .int .u8 (z 2), .int .u8 (z 3)]) rfl hok
  have e1 := R34_is (fl := .any) (n := n) (b8_16 hx) (show (16 : Nat) ≤ 1000000 by decide)
  have e3 := R34_is (fl := .any) (n := m) (b8_4 hz) (show (4 : Nat) ≤ 1000000 by decide)
  have e2 : R35 [.fs 2 (runL (endL [.int .u8 (x 0), .int .u8 (x 1), .int .u8 (x 2), .int .u8 (x 3), .int .u8 (x 4), .int .u8 (x 5), .int .u8 (x 6), .int .u8 (x 7), .int .u8 (x 8), .int .u8 (x 9), .int .u8 (x 10), .int .u8 (x 11), .int .u8 (x 12), .int .u8 (x 13), .int .u8 (x 14), .int .u8 (x 15)] n e a)) .any] = some (.ret (.agg (endB [.int .u8 (x 0), .int .u8 (x 1), .int .u8 (x 2), .int .u8 (x 3), .int .u8 (x 4), .int .u8 (x 5), .int .u8 (x 6), .int .u8 (x 7), .int .u8 (x 8), .int .u8 (x 9), .int .u8 (x 10), .int .u8 (x 11), .int .u8 (x 12), .int .u8 (x 13), .int .u8 (x 14), .int .u8 (x 15)] n e a)), []) := by
    rw [R35_is (runL_facts eL.1).2.2.1 (by rw [runL_length]; exact (show (2 : Nat) ≤ 65536 by decide)), pad_runL eL.1 (by omega) (by decide)]; rfl
  have l4 : ([.agg [.int .i64 m, .int .u64 (getX [.int .u8 (z 0), .int .u8 (z 1), .int .u8 (z 2), .int .u8 (z 3)] 0 m)], .agg [.int .i64 (IntKind.i64.wrap (e - (if IntKind.i64.wrap (e - IntKind.i64.wrap (32 - m)) > 0 then IntKind.i64.wrap (e - IntKind.i64.wrap (32 - m)) else 0))), .int .u64 (a.fdiv (2 ^ min ((if IntKind.i64.wrap (e - IntKind.i64.wrap (32 - m)) > 0 then IntKind.i64.wrap (e - IntKind.i64.wrap (32 - m)) else 0)).toNat 64))], .agg [.int .i64 (IntKind.i64.wrap (IntKind.i64.wrap (32 - m) - (IntKind.i64.wrap (e - (if IntKind.i64.wrap (e - IntKind.i64.wrap (32 - m)) > 0 then IntKind.i64.wrap (e - IntKind.i64.wrap (32 - m)) else 0))))), .int .u64 0]] : List AV) = runL (v4L [.int .u8 (z 0), .int .u8 (z 1), .int .u8 (z 2), .int .u8 (z 3)] m e a) := by
    rw [w1, w2, w3, w4, w5, w6, shr_eq]; simp only [runL, v4L, List.map]
  have e5 : catX [.agg [.int .i64 m, .int .u64 (getX [.int .u8 (z 0), .int .u8 (z 1), .int .u8 (z 2), .int .u8 (z 3)] 0 m)], .agg [.int .i64 (IntKind.i64.wrap (e - (if IntKind.i64.wrap (e - IntKind.i64.wrap (32 - m)) > 0 then IntKind.i64.wrap (e - IntKind.i64.wrap (32 - m)) else 0))), .int .u64 (a.fdiv (2 ^ min ((if IntKind.i64.wrap (e - IntKind.i64.wrap (32 - m)) > 0 then IntKind.i64.wrap (e - IntKind.i64.wrap (32 - m)) else 0)).toNat 64))], .agg [.int .i64 (IntKind.i64.wrap (IntKind.i64.wrap (32 - m) - (IntKind.i64.wrap (e - (if IntKind.i64.wrap (e - IntKind.i64.wrap (32 - m)) > 0 then IntKind.i64.wrap (e - IntKind.i64.wrap (32 - m)) else 0))))), .int .u64 0]] = v4B [.int .u8 (z 0), .int .u8 (z 1), .int .u8 (z 2), .int .u8 (z 3)] m e a := by
    rw [l4]; exact cat_whole vL.1 (by rw [vL.2]) (by decide)
  have hv := v4B_ok (Z := [.int .u8 (z 0), .int .u8 (z 1), .int .u8 (z 2), .int .u8 (z 3)]) (m := m) (e := e) (a := a)
  have e6 : R37 [.fs 1 [.int .u8 (byteAt (v4B [.int .u8 (z 0), .int .u8 (z 1), .int .u8 (z 2), .int .u8 (z 3)] m e a) 0), .int .u8 (byteAt (v4B [.int .u8 (z 0), .int .u8 (z 1), .int .u8 (z 2), .int .u8 (z 3)] m e a) 1), .int .u8 (byteAt (v4B [.int .u8 (z 0), .int .u8 (z 1), .int .u8 (z 2), .int .u8 (z 3)] m e a) 2), .int .u8 (byteAt (v4B [.int .u8 (z 0), .int .u8 (z 1), .int .u8 (z 2), .int .u8 (z 3)] m e a) 3)] .any, .int .i64 0, .int .i64 32] = some (.ret (.tup [.int .u64 (getX (v4B [.int .u8 (z 0), .int .u8 (z 1), .int .u8 (z 2), .int .u8 (z 3)] m e a) 0 32), .int .i64 0]), []) := by
    rw [← bytes4 hv.1 hv.2, R37_is hv.1 (by rw [hv.2]; decide), hv.2]; rfl
  have hn : inK .i64 n = true := by rw [inK_i64, decide_eq_true (show -9223372036854775808 ≤ n by omega), decide_eq_true (show n ≤ 9223372036854775807 by omega)]; rfl
  have hm : inK .i64 m = true := by rw [inK_i64, decide_eq_true (show -9223372036854775808 ≤ m by omega), decide_eq_true (show m ≤ 9223372036854775807 by omega)]; rfl
  have s1 : ∀ (k : Int) (xs : List AV) (t : Int), inK .i64 k = true → shOK (.agg [.int .i64, .int .u64]) (some (.ret (.agg [.int .i64 k, .int .u64 (getX xs 0 t)]), [])) = true := by
    intro k xs t hk
    simp only [shOK_ret, has_agg, hasL_cons, hasL_nil, has_int, hk, getX_in, List.getD_cons_zero, List.getD_cons_succ, List.length_cons, List.length_nil, beq_self_eq_true, Bool.and_self]
  have s6 : shOK (.tup [.int .u64, .int .i64]) (some (.ret (.tup [.int .u64 (getX (v4B [.int .u8 (z 0), .int .u8 (z 1), .int .u8 (z 2), .int .u8 (z 3)] m e a) 0 32), .int .i64 0]), [])) = true := by
    simp only [shOK_ret, has_tup, hasL_cons, hasL_nil, has_int, getX_in, List.getD_cons_zero, List.getD_cons_succ, List.length_cons, List.length_nil, beq_self_eq_true, Bool.and_self]
    rfl
  have hown : ∀ p : Int, p = pidR m e a → R35 [.fs 2 [.agg [.int .i64 n, .int .u64 (getX [.int .u8 (x 0), .int .u8 (x 1), .int .u8 (x 2), .int .u8 (x 3), .int .u8 (x 4), .int .u8 (x 5), .int .u8 (x 6), .int .u8 (x 7), .int .u8 (x 8), .int .u8 (x 9), .int .u8 (x 10), .int .u8 (x 11), .int .u8 (x 12), .int .u8 (x 13), .int .u8 (x 14), .int .u8 (x 15)] 0 n)], .agg [.int .i64 e, .int .u64 a], .agg [.int .i64 (IntKind.i64.wrap (64 - IntKind.i64.wrap (n + e))), .int .u64 0], .agg [.int .i64 16, .int .u64 0], .agg [.int .i64 32, .int .u64 (getX (v4B [.int .u8 (z 0), .int .u8 (z 1), .int .u8 (z 2), .int .u8 (z 3)] m e a) 0 32)], .agg [.int .i64 16, .int .u64 p]] .any] = some (.ret (.agg (ownB [.int .u8 (x 0), .int .u8 (x 1), .int .u8 (x 2), .int .u8 (x 3), .int .u8 (x 4), .int .u8 (x 5), .int .u8 (x 6), .int .u8 (x 7), .int .u8 (x 8), .int .u8 (x 9), .int .u8 (x 10), .int .u8 (x 11), .int .u8 (x 12), .int .u8 (x 13), .int .u8 (x 14), .int .u8 (x 15)] [.int .u8 (z 0), .int .u8 (z 1), .int .u8 (z 2), .int .u8 (z 3)] n m e a)), []) := by
    intro p hp'
    rw [hp']
    have l6 : ([.agg [.int .i64 n, .int .u64 (getX [.int .u8 (x 0), .int .u8 (x 1), .int .u8 (x 2), .int .u8 (x 3), .int .u8 (x 4), .int .u8 (x 5), .int .u8 (x 6), .int .u8 (x 7), .int .u8 (x 8), .int .u8 (x 9), .int .u8 (x 10), .int .u8 (x 11), .int .u8 (x 12), .int .u8 (x 13), .int .u8 (x 14), .int .u8 (x 15)] 0 n)], .agg [.int .i64 e, .int .u64 a], .agg [.int .i64 (IntKind.i64.wrap (64 - IntKind.i64.wrap (n + e))), .int .u64 0], .agg [.int .i64 16, .int .u64 0], .agg [.int .i64 32, .int .u64 (getX (v4B [.int .u8 (z 0), .int .u8 (z 1), .int .u8 (z 2), .int .u8 (z 3)] m e a) 0 32)], .agg [.int .i64 16, .int .u64 (pidR m e a)]] : List AV) = runL (ownL [.int .u8 (x 0), .int .u8 (x 1), .int .u8 (x 2), .int .u8 (x 3), .int .u8 (x 4), .int .u8 (x 5), .int .u8 (x 6), .int .u8 (x 7), .int .u8 (x 8), .int .u8 (x 9), .int .u8 (x 10), .int .u8 (x 11), .int .u8 (x 12), .int .u8 (x 13), .int .u8 (x 14), .int .u8 (x 15)] [.int .u8 (z 0), .int .u8 (z 1), .int .u8 (z 2), .int .u8 (z 3)] n m e a) := by rw [w8, w9]; simp only [runL, ownL, List.map]
    rw [l6, R35_is (runL_facts oL.1).2.2.1 (by rw [runL_length]; exact (show (6 : Nat) ≤ 65536 by decide)), pad_runL oL.1 (by rw [oL.2]; decide) (by decide)]
    simp only [ownB]
  have hcond : (runsB [.agg [.int .i64 m, .int .u64 (getX [.int .u8 (z 0), .int .u8 (z 1), .int .u8 (z 2), .int .u8 (z 3)] 0 m)], .agg [.int .i64 (IntKind.i64.wrap (e - (if IntKind.i64.wrap (e - IntKind.i64.wrap (32 - m)) > 0 then IntKind.i64.wrap (e - IntKind.i64.wrap (32 - m)) else 0))), .int .u64 (a.fdiv (2 ^ min ((if IntKind.i64.wrap (e - IntKind.i64.wrap (32 - m)) > 0 then IntKind.i64.wrap (e - IntKind.i64.wrap (32 - m)) else 0)).toNat 64))], .agg [.int .i64 (IntKind.i64.wrap (IntKind.i64.wrap (32 - m) - (IntKind.i64.wrap (e - (if IntKind.i64.wrap (e - IntKind.i64.wrap (32 - m)) > 0 then IntKind.i64.wrap (e - IntKind.i64.wrap (32 - m)) else 0))))), .int .u64 0]] && true && sumR [.agg [.int .i64 m, .int .u64 (getX [.int .u8 (z 0), .int .u8 (z 1), .int .u8 (z 2), .int .u8 (z 3)] 0 m)], .agg [.int .i64 (IntKind.i64.wrap (e - (if IntKind.i64.wrap (e - IntKind.i64.wrap (32 - m)) > 0 then IntKind.i64.wrap (e - IntKind.i64.wrap (32 - m)) else 0))), .int .u64 (a.fdiv (2 ^ min ((if IntKind.i64.wrap (e - IntKind.i64.wrap (32 - m)) > 0 then IntKind.i64.wrap (e - IntKind.i64.wrap (32 - m)) else 0)).toNat 64))], .agg [.int .i64 (IntKind.i64.wrap (IntKind.i64.wrap (32 - m) - (IntKind.i64.wrap (e - (if IntKind.i64.wrap (e - IntKind.i64.wrap (32 - m)) > 0 then IntKind.i64.wrap (e - IntKind.i64.wrap (32 - m)) else 0))))), .int .u64 0]] 3 == 32 && catE [.agg [.int .i64 m, .int .u64 (getX [.int .u8 (z 0), .int .u8 (z 1), .int .u8 (z 2), .int .u8 (z 3)] 0 m)], .agg [.int .i64 (IntKind.i64.wrap (e - (if IntKind.i64.wrap (e - IntKind.i64.wrap (32 - m)) > 0 then IntKind.i64.wrap (e - IntKind.i64.wrap (32 - m)) else 0))), .int .u64 (a.fdiv (2 ^ min ((if IntKind.i64.wrap (e - IntKind.i64.wrap (32 - m)) > 0 then IntKind.i64.wrap (e - IntKind.i64.wrap (32 - m)) else 0)).toNat 64))], .agg [.int .i64 (IntKind.i64.wrap (IntKind.i64.wrap (32 - m) - (IntKind.i64.wrap (e - (if IntKind.i64.wrap (e - IntKind.i64.wrap (32 - m)) > 0 then IntKind.i64.wrap (e - IntKind.i64.wrap (32 - m)) else 0))))), .int .u64 0]] == 0) = true := by
    have f := runL_facts vL.1
    rw [l4, f.2.2.1, show sumR (runL (v4L [.int .u8 (z 0), .int .u8 (z 1), .int .u8 (z 2), .int .u8 (z 3)] m e a)) 3 = 32 from f.2.1.trans vL.2, catE_runL vL.1 (by rw [vL.2]; decide)]
    rfl
  have ha : (a.fdiv (2 ^ min e.toNat 64) != 0) = false := by rw [hmin, shr_eq, he]; rfl
  have sE : shOK (.agg [.int .u8, .int .u8, .int .u8, .int .u8, .int .u8, .int .u8, .int .u8, .int .u8, .int .u8, .int .u8, .int .u8, .int .u8, .int .u8, .int .u8, .int .u8, .int .u8]) (some (.ret (.agg (endB [.int .u8 (x 0), .int .u8 (x 1), .int .u8 (x 2), .int .u8 (x 3), .int .u8 (x 4), .int .u8 (x 5), .int .u8 (x 6), .int .u8 (x 7), .int .u8 (x 8), .int .u8 (x 9), .int .u8 (x 10), .int .u8 (x 11), .int .u8 (x 12), .int .u8 (x 13), .int .u8 (x 14), .int .u8 (x 15)] n e a)), [])) = true := by
    rw [shOK_ret]; exact hasU16 endB_ok.1 endB_ok.2
  have sO : shOK (.agg [.int .u8, .int .u8, .int .u8, .int .u8, .int .u8, .int .u8, .int .u8, .int .u8, .int .u8, .int .u8, .int .u8, .int .u8, .int .u8, .int .u8, .int .u8, .int .u8]) (some (.ret (.agg (ownB [.int .u8 (x 0), .int .u8 (x 1), .int .u8 (x 2), .int .u8 (x 3), .int .u8 (x 4), .int .u8 (x 5), .int .u8 (x 6), .int .u8 (x 7), .int .u8 (x 8), .int .u8 (x 9), .int .u8 (x 10), .int .u8 (x 11), .int .u8 (x 12), .int .u8 (x 13), .int .u8 (x 14), .int .u8 (x 15)] [.int .u8 (z 0), .int .u8 (z 1), .int .u8 (z 2), .int .u8 (z 3)] n m e a)), [])) = true := by
    rw [shOK_ret]; exact hasU16 ownB_ok.1 ownB_ok.2
  have sb : ∀ (c : List AV) (k : Nat), (sel (some (AEnd.ret (AV.agg c), [])) [k]).toInt = byteAt c k := fun _ _ => rfl
  have hW : edgW [.int .u8 (x 0), .int .u8 (x 1), .int .u8 (x 2), .int .u8 (x 3), .int .u8 (x 4), .int .u8 (x 5), .int .u8 (x 6), .int .u8 (x 7), .int .u8 (x 8), .int .u8 (x 9), .int .u8 (x 10), .int .u8 (x 11), .int .u8 (x 12), .int .u8 (x 13), .int .u8 (x 14), .int .u8 (x 15)] [.int .u8 (z 0), .int .u8 (z 1), .int .u8 (z 2), .int .u8 (z 3)] n m e o a = edgV [.int .u8 (x 0), .int .u8 (x 1), .int .u8 (x 2), .int .u8 (x 3), .int .u8 (x 4), .int .u8 (x 5), .int .u8 (x 6), .int .u8 (x 7), .int .u8 (x 8), .int .u8 (x 9), .int .u8 (x 10), .int .u8 (x 11), .int .u8 (x 12), .int .u8 (x 13), .int .u8 (x 14), .int .u8 (x 15)] [.int .u8 (z 0), .int .u8 (z 1), .int .u8 (z 2), .int .u8 (z 3)] n m e o a := by unfold edgW; rw [hE]; rfl
  rw [hW, hE]
  unfold edgV
  by_cases hq : qR m e > 0
  · have hpe : pidR m e a = a % 2 ^ (qR m e).toNat := if_pos hq
    have hof : offR m e o = o := if_pos hq
    have e7 := hown (IntKind.u64.wrap (IntKind.u16.wrap (IntKind.u64.wrap ((BitVec.ofInt 64 a &&& BitVec.ofInt 64 (IntKind.u64.wrap (IntKind.u64.wrap (1 * 2 ^ min ((if IntKind.i64.wrap (e - IntKind.i64.wrap (32 - m)) > 0 then IntKind.i64.wrap (e - IntKind.i64.wrap (32 - m)) else 0)).toNat 64) - 1))).toNat : Int)))) (by
      rw [w1, w2, w3, w6, wp, hpe, u16_of (by omega) (by omega), u64_of (by omega) (by omega)])
    rw [N10 x z n m e o f a e0.symm e1.symm e2.symm e3.symm e5.symm e6.symm e7.symm rfl]
    refine (aIf_pos (by rw [hc]; rfl)).trans ((aIf_neg (by rw [hc]; rfl)).trans ((aIf_neg (decide_eq_false (by omega))).trans ((aIf_neg ha).trans ((aIf_pos (s1 _ _ _ hn)).trans ((aIf_pos sE).trans ((aIf_pos (s1 _ _ _ hm)).trans ?_))))))
    refine (aIf_neg (by rw [w1, w2, w3]; exact decide_eq_false (by omega))).trans ((aIf_pos hcond).trans ((aIf_pos (by rw [w1, w2, w3]; exact decide_eq_true hq)).trans ((aIf_neg (by rw [w1, w2, w3]; exact decide_eq_false (by omega))).trans ((aIf_pos s6).trans ((aIf_pos sO).trans ?_)))))
    have wq : IntKind.u16.wrap (a % 2 ^ (qR m e).toNat) = pidR m e a := by rw [← hpe]; exact u16_of (by omega) (by omega)
    simp only [w1, w2, w3, w4, w6, w7, w8, wp, wq, sb, hof]
  · have hpe : pidR m e a = 0 := if_neg hq
    have hof : offR m e o = 0 := if_neg hq
    have hq0 : qR m e = 0 := by omega
    have e8 := hown 0 hpe.symm
    rw [N10 x z n m e o f a e0.symm e1.symm e2.symm e3.symm e5.symm e6.symm rfl e8.symm]
    refine (aIf_pos (by rw [hc]; rfl)).trans ((aIf_neg (by rw [hc]; rfl)).trans ((aIf_neg (decide_eq_false (by omega))).trans ((aIf_neg ha).trans ((aIf_pos (s1 _ _ _ hn)).trans ((aIf_pos sE).trans ((aIf_pos (s1 _ _ _ hm)).trans ?_))))))
    refine (aIf_neg (by rw [w1, w2, w3]; exact decide_eq_false (by omega))).trans ((aIf_pos hcond).trans ((aIf_neg (by rw [w1, w2, w3]; exact decide_eq_false (by omega))).trans ((aIf_pos s6).trans ((aIf_pos sO).trans ?_))))
    simp only [w1, w2, w3, w4, w7, w8, sb, hof, hpe]
    simp only [hq0]

/-- ferryman/ferrymanref02.Low6 -/
noncomputable def T53 : List (FuncId × FSpec) := []
theorem T53_ok : TabOK Tryd.prog T53 := TabOK.nil _
noncomputable def L53_2 : ATs → AH → KC → Res := fun ts H k => match ts, H with
  | [(2, .ptr 0 0 0), (5, .int .i64 i)], [.cells 0 xs] => aIf (intsB .u8 xs && xs.length == 16 && decide (0 ≤ i) && decide (i ≤ 128)) (aIf (lowB xs i.toNat) (k (.exit 0) [(2, .ptr 0 0 0), (5, .int .i64 128), (8, .bool false)] [.cells 0 xs]) (k .ret [(4, .bool false)] [.cells 0 xs])) none
  | _, _ => none
noncomputable def C53 : Ctx := (ctx E T53 [(2, L53_2)] [(0, [1, 2]), (1, [2, 5]), (2, [2, 5, 8]), (3, [2, 5]), (4, [2, 5, 20]), (5, [4]), (6, [4]), (1000002, [2, 5])] [] 21 70)
theorem C53_ok : CtxOK Tryd.prog C53 := ctx_ok E_ok E_flds mixed T53_ok
theorem C53_l0 : C53.loop (loopId (loopB Tryd.f53 0)) = some L53_2 := by kernel_rfl
theorem L53_2_in : LoopsOK C53 (loopB Tryd.f53 0) := LoopsOK.within 0 (by kernel_rfl) (fun j hj S hS => by
  omega)
theorem M53_2a (i : Int) (xs : List AV) (k : KC) : headedK C53 (loopB Tryd.f53 0) [(2, .ptr 0 0 0), (5, .int .i64 i)] [.cells 0 xs] k =
  aIf (decide (i < 128)) (aIf (decide (0 ≤ IntKind.i64.wrap (i.tdiv 8))) (aIf (decide (IntKind.i64.wrap (i.tdiv 8) < 16)) (aIf (decide (0 + (IntKind.i64.wrap (i.tdiv 8)).toNat * 1 + 1 ≤ xs.length)) (aIf ((xs.getD (0 + (IntKind.i64.wrap (i.tdiv 8)).toNat * 1) AV.junk).isInt IntKind.u8) (aIf (decide (IntKind.i64.wrap (7 - i.tmod 8) < 0)) none (aIf (IntKind.u8.wrap (↑(BitVec.ofInt 8 ((xs.getD (0 + (IntKind.i64.wrap (i.tdiv 8)).toNat * 1) AV.junk).toInt.fdiv (2 ^ min (IntKind.i64.wrap (7 - i.tmod 8)).toNat 8)) &&& BitVec.ofInt 8 1).toNat : Int) == 1) (k AExit.ret [(4, AV.bool false)] [AO.cells 0 xs]) (k AExit.normal [(2, AV.ptr 0 0 0), (5, AV.int IntKind.i64 (IntKind.i64.wrap (i + 1)))] [AO.cells 0 xs]))) none) none) none) none) (k (AExit.exit 0) [(2, AV.ptr 0 0 0), (5, AV.int IntKind.i64 i), (8, AV.bool (decide (i < 128)))] [AO.cells 0 xs]) := by kernel_rfl
theorem L53_2_ok : LoopSum C53 (loopB Tryd.f53 0) L53_2 := LoopSum.of C53_ok L53_2_in (fun ts H => by
  unfold L53_2
  split
  · rename_i i xs
    rcases Bool.eq_false_or_eq_true (intsB .u8 xs && xs.length == 16 && decide (0 ≤ i) && decide (i ≤ 128)) with hp | hp
    · refine .inr ?_
      simp only [aIf_pos hp]
      simp only [Bool.and_eq_true, decide_eq_true_eq, beq_iff_eq] at hp
      obtain ⟨⟨⟨hu, hL⟩, h0⟩, h1⟩ := hp
      obtain ⟨i, rfl⟩ := Int.eq_ofNat_of_zero_le h0
      have key : ∀ j : Nat, j < 128 → ∀ k, headedK C53 (loopB Tryd.f53 0) [(2, .ptr 0 0 0), (5, .int .i64 (j : Int))] [.cells 0 xs] k = aIf (bitV xs j == 1) (k .ret [(4, .bool false)] [.cells 0 xs]) (k .normal [(2, .ptr 0 0 0), (5, .int .i64 ((j + 1 : Nat) : Int))] [.cells 0 xs]) := by
        intro j hj k
        obtain ⟨x, hx, he⟩ := u8_get hu (j / 8) (by omega)
        rw [M53_2a]
        simp only [decide_eq_true (show (j : Int) < 128 by omega), div8 (show j < 9223372036854775808 by omega), sh7 j, decide_eq_true (show ((j / 8 : Nat) : Int) < 16 by omega), decide_eq_true (show j / 8 + 1 ≤ xs.length by omega), show min (7 - j % 8) 8 = 7 - j % 8 by omega, he, bit8 hx (show 7 - j % 8 < 8 by omega), bitEq he, i64s (show j + 1 < 9223372036854775808 by omega), Int.toNat_natCast, Nat.zero_add, Nat.mul_one, isInt_self, AV.toInt, dnn, dnn', aIf_true, aIf_false, shr_eq]
      have hl : lowB xs (i : Int).toNat = noneB (fun j => bitV xs j == 1) (128 - i) i := by rw [Int.toNat_natCast]; unfold lowB; rw [hL]
      rw [hl]
      exact (iter_scan (N := 128) (ts := fun j => [(2, .ptr 0 0 0), (5, .int .i64 (j : Int))]) (H := [.cells 0 xs]) (b := fun j => bitV xs j == 1) (fun j hj hb k => (key j hj k).trans (aIf_pos hb)) (fun j hj hb k => (key j hj k).trans (aIf_neg hb))
        (fun k => by rw [M53_2a]; rfl) (by intro h; cases h) (by intro h; cases h) (128 - i) i (by omega)).imp fun m hm k => (hm k).symm
    · exact .inl fun k => by rw [aIf_neg hp]
  · exact .inl fun k => rfl)
theorem C53_loops : ∀ c, Tryd.f53.body = some c → LoopsOK C53 c := LoopsOK.of 1 (by kernel_rfl) (fun j hj S hS => by
  match j, hj with
  | 0, _ => rw [C53_l0] at hS; cases hS; exact L53_2_ok
  | n + 1, hj => omega)
noncomputable def S53 : FSpec := inlineK C53 Tryd.f53
theorem S53_ok : SpecOK Tryd.prog 53 S53 := inlineK_ok C53_ok Tryd.func53 C53_loops
theorem En53 : Enters Tryd.prog 53 := ⟨_, Tryd.func53, by decide, rfl⟩
noncomputable def R53 (args : List AV) : Res := S53 args [] encK
noncomputable def V53 : FSpec := leafK (.bool) R53
theorem V53_ok : SpecOK Tryd.prog 53 V53 := leafK_ok S53_ok (fun _ => rfl)
theorem N53 (x : Nat → Int) (i : Int) : S53 [.agg [.int .u8 (x 0), .int .u8 (x 1), .int .u8 (x 2), .int .u8 (x 3), .int .u8 (x 4), .int .u8 (x 5), .int .u8 (x 6), .int .u8 (x 7), .int .u8 (x 8), .int .u8 (x 9), .int .u8 (x 10), .int .u8 (x 11), .int .u8 (x 12), .int .u8 (x 13), .int .u8 (x 14), .int .u8 (x 15)], .int .i64 i] [] encK =
  aIf (true && (decide (0 ≤ x 0) && decide (x 0 ≤ 255)) && (true && (decide (0 ≤ x 1) && decide (x 1 ≤ 255)) && (true && (decide (0 ≤ x 2) && decide (x 2 ≤ 255)) && (true && (decide (0 ≤ x 3) && decide (x 3 ≤ 255)) && (true && (decide (0 ≤ x 4) && decide (x 4 ≤ 255)) && (true && (decide (0 ≤ x 5) && decide (x 5 ≤ 255)) && (true && (decide (0 ≤ x 6) && decide (x 6 ≤ 255)) && (true && (decide (0 ≤ x 7) && decide (x 7 ≤ 255)) && (true && (decide (0 ≤ x 8) && decide (x 8 ≤ 255)) && (true && (decide (0 ≤ x 9) && decide (x 9 ≤ 255)) && (true && (decide (0 ≤ x 10) && decide (x 10 ≤ 255)) && (true && (decide (0 ≤ x 11) && decide (x 11 ≤ 255)) && (true && (decide (0 ≤ x 12) && decide (x 12 ≤ 255)) && (true && (decide (0 ≤ x 13) && decide (x 13 ≤ 255)) && (true && (decide (0 ≤ x 14) && decide (x 14 ≤ 255)) && (true && (decide (0 ≤ x 15) && decide (x 15 ≤ 255)) && true))))))))))))))) && true && decide (0 ≤ i) && decide (i ≤ 128)) (aIf (Pl.lowB [AV.int IntKind.u8 (x 0), AV.int IntKind.u8 (x 1), AV.int IntKind.u8 (x 2), AV.int IntKind.u8 (x 3), AV.int IntKind.u8 (x 4), AV.int IntKind.u8 (x 5), AV.int IntKind.u8 (x 6), AV.int IntKind.u8 (x 7), AV.int IntKind.u8 (x 8), AV.int IntKind.u8 (x 9), AV.int IntKind.u8 (x 10), AV.int IntKind.u8 (x 11), AV.int IntKind.u8 (x 12), AV.int IntKind.u8 (x 13), AV.int IntKind.u8 (x 14), AV.int IntKind.u8 (x 15)] i.toNat) (some (AEnd.ret (AV.bool true), [])) (some (AEnd.ret (AV.bool false), []))) none := by kernel_rfl
theorem R53_is {x : Nat → Int} {i : Int} (hu : intsB .u8 [.int .u8 (x 0), .int .u8 (x 1), .int .u8 (x 2), .int .u8 (x 3), .int .u8 (x 4), .int .u8 (x 5), .int .u8 (x 6), .int .u8 (x 7), .int .u8 (x 8), .int .u8 (x 9), .int .u8 (x 10), .int .u8 (x 11), .int .u8 (x 12), .int .u8 (x 13), .int .u8 (x 14), .int .u8 (x 15)] = true) (h0 : 0 ≤ i) (h1 : i ≤ 128) : R53 [.agg [.int .u8 (x 0), .int .u8 (x 1), .int .u8 (x 2), .int .u8 (x 3), .int .u8 (x 4), .int .u8 (x 5), .int .u8 (x 6), .int .u8 (x 7), .int .u8 (x 8), .int .u8 (x 9), .int .u8 (x 10), .int .u8 (x 11), .int .u8 (x 12), .int .u8 (x 13), .int .u8 (x 14), .int .u8 (x 15)], .int .i64 i] = some (.ret (.bool (lowB [.int .u8 (x 0), .int .u8 (x 1), .int .u8 (x 2), .int .u8 (x 3), .int .u8 (x 4), .int .u8 (x 5), .int .u8 (x 6), .int .u8 (x 7), .int .u8 (x 8), .int .u8 (x 9), .int .u8 (x 10), .int .u8 (x 11), .int .u8 (x 12), .int .u8 (x 13), .int .u8 (x 14), .int .u8 (x 15)] i.toNat)), []) := by
  show S53 _ [] encK = _
  rw [N53]
  refine (aIf_pos ?_).trans ?_
  · have : (intsB .u8 [.int .u8 (x 0), .int .u8 (x 1), .int .u8 (x 2), .int .u8 (x 3), .int .u8 (x 4), .int .u8 (x 5), .int .u8 (x 6), .int .u8 (x 7), .int .u8 (x 8), .int .u8 (x 9), .int .u8 (x 10), .int .u8 (x 11), .int .u8 (x 12), .int .u8 (x 13), .int .u8 (x 14), .int .u8 (x 15)] && ([.int .u8 (x 0), .int .u8 (x 1), .int .u8 (x 2), .int .u8 (x 3), .int .u8 (x 4), .int .u8 (x 5), .int .u8 (x 6), .int .u8 (x 7), .int .u8 (x 8), .int .u8 (x 9), .int .u8 (x 10), .int .u8 (x 11), .int .u8 (x 12), .int .u8 (x 13), .int .u8 (x 14), .int .u8 (x 15)] : List AV).length == 16 && decide (0 ≤ i) && decide (i ≤ 128)) = true := by rw [hu, decide_eq_true h0, decide_eq_true h1]; rfl
    exact this
  · cases lowB [.int .u8 (x 0), .int .u8 (x 1), .int .u8 (x 2), .int .u8 (x 3), .int .u8 (x 4), .int .u8 (x 5), .int .u8 (x 6), .int .u8 (x 7), .int .u8 (x 8), .int .u8 (x 9), .int .u8 (x 10), .int .u8 (x 11), .int .u8 (x 12), .int .u8 (x 13), .int .u8 (x 14), .int .u8 (x 15)] i.toNat <;> rfl

/-- ferryman/ferrymanref02.Check6 -/
noncomputable def T30 : List (FuncId × FSpec) := [(53, V53)]
theorem T30_ok : TabOK Tryd.prog T30 := TabOK.cons En53 V53_ok (TabOK.nil _)
noncomputable def C30 : Ctx := (ctx E T30 [] [(0, [1]), (1, [18]), (2, [2]), (3, [2])] [] 19 70)
theorem C30_ok : CtxOK Tryd.prog C30 := ctx_ok E_ok E_flds mixed T30_ok
noncomputable def S30 : FSpec := inlineK C30 Tryd.f30
theorem S30_ok : SpecOK Tryd.prog 30 S30 := inlineK_ok C30_ok Tryd.func30 (fun _ _ => LoopsOK.none _)
theorem En30 : Enters Tryd.prog 30 := ⟨_, Tryd.func30, by decide, rfl⟩
noncomputable def R30 (args : List AV) : Res := S30 args [] encK
noncomputable def V30 : FSpec := leafK (.int .i64) R30
theorem V30_ok : SpecOK Tryd.prog 30 V30 := leafK_ok S30_ok (fun _ => rfl)
theorem N30 (x : Nat → Int) (n : Int) : S30 [.agg [.int .u8 (x 0), .int .u8 (x 1), .int .u8 (x 2), .int .u8 (x 3), .int .u8 (x 4), .int .u8 (x 5), .int .u8 (x 6), .int .u8 (x 7), .int .u8 (x 8), .int .u8 (x 9), .int .u8 (x 10), .int .u8 (x 11), .int .u8 (x 12), .int .u8 (x 13), .int .u8 (x 14), .int .u8 (x 15), .int .i64 n]] [] encK =
  aIf (decide (n < 0)) (some (AEnd.ret (AV.int IntKind.i64 22), [])) (aIf (decide (n > 128)) (some (AEnd.ret (AV.int IntKind.i64 22), [])) (aIf (shOK Sh.bool (R53 [AV.agg [AV.int IntKind.u8 (x 0), AV.int IntKind.u8 (x 1), AV.int IntKind.u8 (x 2), AV.int IntKind.u8 (x 3), AV.int IntKind.u8 (x 4), AV.int IntKind.u8 (x 5), AV.int IntKind.u8 (x 6), AV.int IntKind.u8 (x 7), AV.int IntKind.u8 (x 8), AV.int IntKind.u8 (x 9), AV.int IntKind.u8 (x 10), AV.int IntKind.u8 (x 11), AV.int IntKind.u8 (x 12), AV.int IntKind.u8 (x 13), AV.int IntKind.u8 (x 14), AV.int IntKind.u8 (x 15)], AV.int IntKind.i64 n])) (aIf (!(sel (R53 [AV.agg [AV.int IntKind.u8 (x 0), AV.int IntKind.u8 (x 1), AV.int IntKind.u8 (x 2), AV.int IntKind.u8 (x 3), AV.int IntKind.u8 (x 4), AV.int IntKind.u8 (x 5), AV.int IntKind.u8 (x 6), AV.int IntKind.u8 (x 7), AV.int IntKind.u8 (x 8), AV.int IntKind.u8 (x 9), AV.int IntKind.u8 (x 10), AV.int IntKind.u8 (x 11), AV.int IntKind.u8 (x 12), AV.int IntKind.u8 (x 13), AV.int IntKind.u8 (x 14), AV.int IntKind.u8 (x 15)], AV.int IntKind.i64 n]) []).toBool) (some (AEnd.ret (AV.int IntKind.i64 22), [])) (some (AEnd.ret (AV.int IntKind.i64 0), []))) none)) := by kernel_rfl
theorem R30_is {x : Nat → Int} {n : Int} (hx : b8 x) : R30 [.agg [.int .u8 (x 0), .int .u8 (x 1), .int .u8 (x 2), .int .u8 (x 3), .int .u8 (x 4), .int .u8 (x 5), .int .u8 (x 6), .int .u8 (x 7), .int .u8 (x 8), .int .u8 (x 9), .int .u8 (x 10), .int .u8 (x 11), .int .u8 (x 12), .int .u8 (x 13), .int .u8 (x 14), .int .u8 (x 15), .int .i64 n]] = some (.ret (.int .i64 (chkE 128 [.int .u8 (x 0), .int .u8 (x 1), .int .u8 (x 2), .int .u8 (x 3), .int .u8 (x 4), .int .u8 (x 5), .int .u8 (x 6), .int .u8 (x 7), .int .u8 (x 8), .int .u8 (x 9), .int .u8 (x 10), .int .u8 (x 11), .int .u8 (x 12), .int .u8 (x 13), .int .u8 (x 14), .int .u8 (x 15)] n)), []) := by
  show S30 _ [] encK = _
  have ti : ∀ k n, (AV.int k n).toInt = n := fun _ _ => rfl
  have tb : ∀ b, (AV.bool b).toBool = b := fun _ => rfl
  have si : ∀ k n, sel (some (AEnd.ret (AV.int k n), [])) [] = .int k n := fun _ _ => rfl
  have sb : ∀ b, sel (some (AEnd.ret (AV.bool b), [])) [] = .bool b := fun _ => rfl
  rw [N30]
  unfold chkE
  cases h1 : decide (n < 0)
  · cases h2 : decide (n > 128)
    · have g1 := of_decide_eq_false h1
      have g2 := of_decide_eq_false h2
      have e := R53_is (b8_16 hx) (i := n) (by omega) (by omega)
      simp only [e, shOK_ret, has_bool, sb, tb, aIf_true, aIf_false, cond_false]
      cases lowB [.int .u8 (x 0), .int .u8 (x 1), .int .u8 (x 2), .int .u8 (x 3), .int .u8 (x 4), .int .u8 (x 5), .int .u8 (x 6), .int .u8 (x 7), .int .u8 (x 8), .int .u8 (x 9), .int .u8 (x 10), .int .u8 (x 11), .int .u8 (x 12), .int .u8 (x 13), .int .u8 (x 14), .int .u8 (x 15)] n.toNat <;> rfl
    · rfl
  · rfl

/-- ferryman/ferrymanref02.slash -/
noncomputable def T72 : List (FuncId × FSpec) := []
theorem T72_ok : TabOK Tryd.prog T72 := TabOK.nil _
noncomputable def C72 : Ctx := (ctx E T72 [] [(0, [0]), (1, [0, 3]), (2, [0, 3, 13]), (3, [0, 3]), (4, [2]), (1000002, [0, 3])] [] 17 70)
theorem C72_ok : CtxOK Tryd.prog C72 := ctx_ok E_ok E_flds mixed T72_ok
noncomputable def S72 : FSpec := inlineK C72 Tryd.f72
theorem S72_ok : SpecOK Tryd.prog 72 S72 := inlineK_ok C72_ok Tryd.func72 (fun _ _ => LoopsOK.none _)
theorem En72 : Enters Tryd.prog 72 := ⟨_, Tryd.func72, by decide, rfl⟩

/-- ferryman/ferrymanref02.digit -/
noncomputable def T91 : List (FuncId × FSpec) := []
theorem T91_ok : TabOK Tryd.prog T91 := TabOK.nil _
noncomputable def C91 : Ctx := (ctx E T91 [] [(0, [0]), (1, [2])] [] 9 70)
theorem C91_ok : CtxOK Tryd.prog C91 := ctx_ok E_ok E_flds mixed T91_ok
noncomputable def S91 : FSpec := inlineK C91 Tryd.f91
theorem S91_ok : SpecOK Tryd.prog 91 S91 := inlineK_ok C91_ok Tryd.func91 (fun _ _ => LoopsOK.none _)
theorem En91 : Enters Tryd.prog 91 := ⟨_, Tryd.func91, by decide, rfl⟩

/-- ferryman/ferrymanref02.octet -/
noncomputable def T80 : List (FuncId × FSpec) := [(91, S91)]
theorem T80_ok : TabOK Tryd.prog T80 := TabOK.cons En91 S91_ok (TabOK.nil _)
noncomputable def C80 : Ctx := (ctx E T80 [] [(0, [0, 1]), (1, [0, 1, 8]), (2, [4]), (3, [0, 1, 21]), (4, [4]), (5, [0, 1, 5]), (6, [0, 1, 5, 6]), (7, [0, 1, 5, 6, 25]), (8, [0, 1, 5, 6]), (9, [0, 1, 5, 6, 32]), (10, [4]), (11, [0, 1, 5, 6]), (12, [4]), (1000007, [0, 1, 5, 6])] [] 44 70)
theorem C80_ok : CtxOK Tryd.prog C80 := ctx_ok E_ok E_flds mixed T80_ok
noncomputable def S80 : FSpec := inlineK C80 Tryd.f80
theorem S80_ok : SpecOK Tryd.prog 80 S80 := inlineK_ok C80_ok Tryd.func80 (fun _ _ => LoopsOK.none _)
theorem En80 : Enters Tryd.prog 80 := ⟨_, Tryd.func80, by decide, rfl⟩

/-- ferryman/ferrymanref02.split -/
noncomputable def T83 : List (FuncId × FSpec) := []
theorem T83_ok : TabOK Tryd.prog T83 := TabOK.nil _
noncomputable def C83 : Ctx := (ctx E T83 [] [(0, [0, 1]), (1, [0, 1, 5]), (2, [0, 1, 5, 6]), (3, [0, 1, 5, 6, 7]), (4, [0, 1, 5, 6, 7, 11]), (5, [0, 1, 5, 6, 7]), (6, [0, 1, 5, 6, 7, 24]), (7, [0, 1, 5, 7]), (8, [0, 1, 5, 6, 7]), (9, [4]), (1000004, [0, 1, 5, 6, 7])] [] 35 70)
theorem C83_ok : CtxOK Tryd.prog C83 := ctx_ok E_ok E_flds mixed T83_ok
noncomputable def S83 : FSpec := inlineK C83 Tryd.f83
theorem S83_ok : SpecOK Tryd.prog 83 S83 := inlineK_ok C83_ok Tryd.func83 (fun _ _ => LoopsOK.none _)
theorem En83 : Enters Tryd.prog 83 := ⟨_, Tryd.func83, by decide, rfl⟩

/-- ferryman/ferrymanref02.Begins4 -/
noncomputable def T81 : List (FuncId × FSpec) := [(80, S80), (83, S83)]
theorem T81_ok : TabOK Tryd.prog T81 := TabOK.cons En80 S80_ok (TabOK.cons En83 S83_ok (TabOK.nil _))
noncomputable def C81 : Ctx := (ctx E T81 [] [(0, [0]), (1, [3]), (2, [3, 9]), (3, [2]), (4, [3, 4]), (5, [3, 4, 13]), (6, [3, 4]), (7, [3, 4, 35]), (8, [2]), (9, [2]), (1000005, [3, 4])] [] 36 70)
theorem C81_ok : CtxOK Tryd.prog C81 := ctx_ok E_ok E_flds mixed T81_ok
noncomputable def S81 : FSpec := inlineK C81 Tryd.f81
theorem S81_ok : SpecOK Tryd.prog 81 S81 := inlineK_ok C81_ok Tryd.func81 (fun _ _ => LoopsOK.none _)
theorem En81 : Enters Tryd.prog 81 := ⟨_, Tryd.func81, by decide, rfl⟩

/-- ferryman/ferrymanref02.worth -/
noncomputable def T97 : List (FuncId × FSpec) := [(91, S91)]
theorem T97_ok : TabOK Tryd.prog T97 := TabOK.cons En91 S91_ok (TabOK.nil _)
noncomputable def C97 : Ctx := (ctx E T97 [] [(0, [0]), (1, [0, 3]), (2, [2]), (3, [0, 9]), (4, [2]), (5, [0, 20]), (6, [2]), (7, [2])] [] 31 70)
theorem C97_ok : CtxOK Tryd.prog C97 := ctx_ok E_ok E_flds mixed T97_ok
noncomputable def S97 : FSpec := inlineK C97 Tryd.f97
theorem S97_ok : SpecOK Tryd.prog 97 S97 := inlineK_ok C97_ok Tryd.func97 (fun _ _ => LoopsOK.none _)
theorem En97 : Enters Tryd.prog 97 := ⟨_, Tryd.func97, by decide, rfl⟩

/-- ferryman/ferrymanref02.group -/
noncomputable def T88 : List (FuncId × FSpec) := [(97, S97)]
theorem T88_ok : TabOK Tryd.prog T88 := TabOK.cons En97 S97_ok (TabOK.nil _)
noncomputable def C88 : Ctx := (ctx E T88 [] [(0, [0]), (1, [0, 3]), (2, [0, 3, 7]), (3, [0, 3]), (4, [0, 3, 14]), (5, [2]), (6, [2]), (1000002, [0, 3])] [] 23 70)
theorem C88_ok : CtxOK Tryd.prog C88 := ctx_ok E_ok E_flds mixed T88_ok
noncomputable def S88 : FSpec := inlineK C88 Tryd.f88
theorem S88_ok : SpecOK Tryd.prog 88 S88 := inlineK_ok C88_ok Tryd.func88 (fun _ _ => LoopsOK.none _)
theorem En88 : Enters Tryd.prog 88 := ⟨_, Tryd.func88, by decide, rfl⟩

/-- (ferryman/ferrymanref02.Six).room -/
noncomputable def T89 : List (FuncId × FSpec) := []
theorem T89_ok : TabOK Tryd.prog T89 := TabOK.nil _
noncomputable def C89 : Ctx := (ctx E T89 [] [(0, [1]), (1, [5]), (2, [2]), (3, [2])] [] 6 70)
theorem C89_ok : CtxOK Tryd.prog C89 := ctx_ok E_ok E_flds mixed T89_ok
noncomputable def S89 : FSpec := inlineK C89 Tryd.f89
theorem S89_ok : SpecOK Tryd.prog 89 S89 := inlineK_ok C89_ok Tryd.func89 (fun _ _ => LoopsOK.none _)
theorem En89 : Enters Tryd.prog 89 := ⟨_, Tryd.func89, by decide, rfl⟩

/-- ferryman/ferrymanref02.value -/
noncomputable def T90 : List (FuncId × FSpec) := [(97, S97)]
theorem T90_ok : TabOK Tryd.prog T90 := TabOK.cons En97 S97_ok (TabOK.nil _)
noncomputable def C90 : Ctx := (ctx E T90 [] [(0, [0]), (1, [0, 3]), (2, [0, 3, 4]), (3, [0, 3, 4, 8]), (4, [0, 3, 4]), (5, [0, 3, 4]), (6, [2]), (1000003, [0, 3, 4])] [] 19 70)
theorem C90_ok : CtxOK Tryd.prog C90 := ctx_ok E_ok E_flds mixed T90_ok
noncomputable def S90 : FSpec := inlineK C90 Tryd.f90
theorem S90_ok : SpecOK Tryd.prog 90 S90 := inlineK_ok C90_ok Tryd.func90 (fun _ _ => LoopsOK.none _)
theorem En90 : Enters Tryd.prog 90 := ⟨_, Tryd.func90, by decide, rfl⟩

/-- ferryman/ferrymanref02.Read6 -/
noncomputable def T78 : List (FuncId × FSpec) := [(81, S81), (88, S88), (89, S89), (90, S90)]
theorem T78_ok : TabOK Tryd.prog T78 := TabOK.cons En81 S81_ok (TabOK.cons En88 S88_ok (TabOK.cons En89 S89_ok (TabOK.cons En90 S90_ok (TabOK.nil _))))
noncomputable def C78 : Ctx := (ctx E T78 [] [(0, [0, 2]), (1, [0, 2, 4]), (2, [0, 2, 4, 5]), (3, [0, 2, 4, 5, 15]), (4, [0, 2, 4, 5, 6]), (5, [0, 2, 4, 5, 9]), (6, [0, 2, 4, 5, 9, 10]), (7, [0, 2, 4, 5, 9, 64]), (8, [2, 3]), (9, [0, 2, 4, 5]), (10, [0, 2, 4, 5, 6, 69]), (11, [0, 2, 4, 5, 7]), (12, [0, 2, 4, 5, 7, 8]), (13, [0, 2, 4, 5, 8, 104]), (14, [2, 3]), (15, [0, 2, 4, 5, 107]), (16, [0, 2, 4, 5]), (17, [0, 2, 4, 5, 112]), (18, [0, 2, 4, 5, 127]), (19, [2, 3]), (20, [0, 2, 4, 5]), (21, [0, 2, 4, 5]), (22, [0, 2, 4, 5, 139]), (23, [2, 3]), (24, [0, 2, 4, 5]), (25, [2, 3]), (1000003, [0, 2, 4, 5])] [1000089] 153 70)
theorem C78_ok : CtxOK Tryd.prog C78 := ctx_ok E_ok E_flds mixed T78_ok
noncomputable def S78 : FSpec := inlineK C78 Tryd.f78
theorem S78_ok : SpecOK Tryd.prog 78 S78 := inlineK_ok C78_ok Tryd.func78 (fun _ _ => LoopsOK.none _)
theorem En78 : Enters Tryd.prog 78 := ⟨_, Tryd.func78, by decide, rfl⟩

/-- ferryman/ferrymanref02.number -/
noncomputable def T75 : List (FuncId × FSpec) := []
theorem T75_ok : TabOK Tryd.prog T75 := TabOK.nil _
noncomputable def C75 : Ctx := (ctx E T75 [] [(0, [0]), (1, [0, 3]), (2, [0, 3, 4]), (3, [0, 3, 4, 8]), (4, [0, 3, 4]), (5, [0, 3, 4]), (6, [2]), (1000003, [0, 3, 4])] [] 20 70)
theorem C75_ok : CtxOK Tryd.prog C75 := ctx_ok E_ok E_flds mixed T75_ok
noncomputable def S75 : FSpec := inlineK C75 Tryd.f75
theorem S75_ok : SpecOK Tryd.prog 75 S75 := inlineK_ok C75_ok Tryd.func75 (fun _ _ => LoopsOK.none _)
theorem En75 : Enters Tryd.prog 75 := ⟨_, Tryd.func75, by decide, rfl⟩

/-- ferryman/ferrymanref02.Whole4 -/
noncomputable def T82 : List (FuncId × FSpec) := [(81, S81), (83, S83)]
theorem T82_ok : TabOK Tryd.prog T82 := TabOK.cons En81 S81_ok (TabOK.cons En83 S83_ok (TabOK.nil _))
noncomputable def C82 : Ctx := (ctx E T82 [] [(0, [0]), (1, [0, 3]), (2, [2])] [] 19 70)
theorem C82_ok : CtxOK Tryd.prog C82 := ctx_ok E_ok E_flds mixed T82_ok
noncomputable def S82 : FSpec := inlineK C82 Tryd.f82
theorem S82_ok : SpecOK Tryd.prog 82 S82 := inlineK_ok C82_ok Tryd.func82 (fun _ _ => LoopsOK.none _)
theorem En82 : Enters Tryd.prog 82 := ⟨_, Tryd.func82, by decide, rfl⟩

/-- ferryman/ferrymanref02.Parse4 -/
noncomputable def T76 : List (FuncId × FSpec) := [(75, S75), (81, S81), (82, S82), (83, S83)]
theorem T76_ok : TabOK Tryd.prog T76 := TabOK.cons En75 S75_ok (TabOK.cons En81 S81_ok (TabOK.cons En82 S82_ok (TabOK.cons En83 S83_ok (TabOK.nil _))))
noncomputable def C76 : Ctx := (ctx E T76 [] [(0, [0, 2]), (1, [0, 2, 5]), (2, [0, 2, 5, 19]), (3, [0, 2, 5]), (4, [0, 2, 5, 30]), (5, [2, 3, 4]), (6, [2, 6]), (7, [2, 6, 7]), (8, [2, 6, 7, 8]), (9, [2, 6, 7, 8, 37]), (10, [2, 6, 7, 8]), (11, [2, 6, 7, 8]), (12, [2, 3, 4]), (1000002, [0, 2, 5]), (1000009, [2, 6, 7, 8])] [] 49 70)
theorem C76_ok : CtxOK Tryd.prog C76 := ctx_ok E_ok E_flds mixed T76_ok
noncomputable def S76 : FSpec := inlineK C76 Tryd.f76
theorem S76_ok : SpecOK Tryd.prog 76 S76 := inlineK_ok C76_ok Tryd.func76 (fun _ _ => LoopsOK.none _)
theorem En76 : Enters Tryd.prog 76 := ⟨_, Tryd.func76, by decide, rfl⟩

/-- ferryman/ferrymanref02.Whole6 -/
noncomputable def T79 : List (FuncId × FSpec) := [(76, S76), (82, S82), (88, S88), (90, S90)]
theorem T79_ok : TabOK Tryd.prog T79 := TabOK.cons En76 S76_ok (TabOK.cons En82 S82_ok (TabOK.cons En88 S88_ok (TabOK.cons En90 S90_ok (TabOK.nil _))))
noncomputable def C79 : Ctx := (ctx E T79 [] [(0, [3]), (1, [3, 6]), (2, [4, 5]), (3, [3, 6, 17]), (4, [3, 6]), (5, [3, 6, 27]), (6, [3, 6, 7]), (7, [3, 6]), (8, [3, 6, 62]), (9, [3, 6, 81]), (10, [4, 5]), (11, [3, 6, 10]), (12, [3, 6, 10, 11]), (13, [3, 6, 10, 11, 89]), (14, [3, 6, 10, 11]), (15, [3, 6, 10, 11, 12]), (16, [3, 6, 10, 11, 12, 101]), (17, [3, 6, 10, 11, 12]), (18, [3, 6, 10, 11, 12]), (19, [3, 6, 10, 11, 110]), (20, [3, 6, 10, 11]), (21, [4, 5]), (1000013, [3, 6, 10, 11]), (1000016, [3, 6, 10, 11, 12])] [] 122 70)
theorem C79_ok : CtxOK Tryd.prog C79 := ctx_ok E_ok E_flds mixed T79_ok
noncomputable def S79 : FSpec := inlineK C79 Tryd.f79
theorem S79_ok : SpecOK Tryd.prog 79 S79 := inlineK_ok C79_ok Tryd.func79 (fun _ _ => LoopsOK.none _)
theorem En79 : Enters Tryd.prog 79 := ⟨_, Tryd.func79, by decide, rfl⟩

/-- ferryman/ferrymanref02.Parse6 -/
noncomputable def T73 : List (FuncId × FSpec) := [(78, S78), (79, S79)]
theorem T73_ok : TabOK Tryd.prog T73 := TabOK.cons En78 S78_ok (TabOK.cons En79 S79_ok (TabOK.nil _))
noncomputable def C73 : Ctx := (ctx E T73 [] [(0, [0, 2]), (1, [0, 2, 5, 6]), (2, [0, 2, 5, 6, 19]), (3, [2, 3, 4]), (4, [2, 6, 7, 8]), (5, [2, 6, 7, 29]), (6, [2, 3, 4]), (7, [2, 7, 9]), (8, [2, 7, 9, 10]), (9, [2, 7, 9, 10, 34]), (10, [2, 7, 9, 10]), (11, [2, 7, 9, 10]), (12, [2, 3, 4]), (1000009, [2, 7, 9, 10])] [] 57 70)
theorem C73_ok : CtxOK Tryd.prog C73 := ctx_ok E_ok E_flds mixed T73_ok
noncomputable def S73 : FSpec := inlineK C73 Tryd.f73
theorem S73_ok : SpecOK Tryd.prog 73 S73 := inlineK_ok C73_ok Tryd.func73 (fun _ _ => LoopsOK.none _)
theorem En73 : Enters Tryd.prog 73 := ⟨_, Tryd.func73, by decide, rfl⟩

/-- ferryman/ferrymanref02.length -/
noncomputable def T74 : List (FuncId × FSpec) := [(80, S80)]
theorem T74_ok : TabOK Tryd.prog T74 := TabOK.cons En80 S80_ok (TabOK.nil _)
noncomputable def C74 : Ctx := (ctx E T74 [] [(0, [0, 1]), (1, [0, 1, 5]), (2, [0, 1, 5, 17]), (3, [0, 1, 5]), (4, [4]), (1000002, [0, 1, 5])] [] 21 70)
theorem C74_ok : CtxOK Tryd.prog C74 := ctx_ok E_ok E_flds mixed T74_ok
noncomputable def S74 : FSpec := inlineK C74 Tryd.f74
theorem S74_ok : SpecOK Tryd.prog 74 S74 := inlineK_ok C74_ok Tryd.func74 (fun _ _ => LoopsOK.none _)
theorem En74 : Enters Tryd.prog 74 := ⟨_, Tryd.func74, by decide, rfl⟩

/-- ferryman/ferrymanref02.Prefix6 -/
noncomputable def T61 : List (FuncId × FSpec) := [(30, V30), (72, S72), (73, S73), (74, S74), (75, S75)]
theorem T61_ok : TabOK Tryd.prog T61 := TabOK.cons En30 V30_ok (TabOK.cons En72 S72_ok (TabOK.cons En73 S73_ok (TabOK.cons En74 S74_ok (TabOK.cons En75 S75_ok (TabOK.nil _)))))
noncomputable def C61 : Ctx := (ctx E T61 [] [(0, [0, 2]), (1, [0, 2, 5]), (2, [0, 2, 5, 6, 7, 8]), (3, [0, 2, 5, 6, 7, 22]), (4, [2, 3, 4]), (5, [0, 2, 5, 6, 28]), (6, [2, 3, 4]), (7, [2, 5, 6, 9]), (8, [2, 5, 6, 7, 9]), (9, [2, 5, 6, 7, 9, 44]), (10, [2, 3, 4]), (11, [2, 5, 10]), (12, [2, 5, 10, 56]), (13, [2, 3, 4]), (14, [2, 3, 4])] [] 60 70)
theorem C61_ok : CtxOK Tryd.prog C61 := ctx_ok E_ok E_flds mixed T61_ok
noncomputable def S61 : FSpec := inlineK C61 Tryd.f61
theorem S61_ok : SpecOK Tryd.prog 61 S61 := inlineK_ok C61_ok Tryd.func61 (fun _ _ => LoopsOK.none _)
theorem En61 : Enters Tryd.prog 61 := ⟨_, Tryd.func61, by decide, rfl⟩

/-- ferryman/ferrymanref02.Low4 -/
noncomputable def T54 : List (FuncId × FSpec) := []
theorem T54_ok : TabOK Tryd.prog T54 := TabOK.nil _
noncomputable def L54_2 : ATs → AH → KC → Res := fun ts H k => match ts, H with
  | [(2, .ptr 0 0 0), (5, .int .i64 i)], [.cells 0 xs] => aIf (intsB .u8 xs && xs.length == 4 && decide (0 ≤ i) && decide (i ≤ 32)) (aIf (lowB xs i.toNat) (k (.exit 0) [(2, .ptr 0 0 0), (5, .int .i64 32), (8, .bool false)] [.cells 0 xs]) (k .ret [(4, .bool false)] [.cells 0 xs])) none
  | _, _ => none
noncomputable def C54 : Ctx := (ctx E T54 [(2, L54_2)] [(0, [1, 2]), (1, [2, 5]), (2, [2, 5, 8]), (3, [2, 5]), (4, [2, 5, 20]), (5, [4]), (6, [4]), (1000002, [2, 5])] [] 21 70)
theorem C54_ok : CtxOK Tryd.prog C54 := ctx_ok E_ok E_flds mixed T54_ok
theorem C54_l0 : C54.loop (loopId (loopB Tryd.f54 0)) = some L54_2 := by kernel_rfl
theorem L54_2_in : LoopsOK C54 (loopB Tryd.f54 0) := LoopsOK.within 0 (by kernel_rfl) (fun j hj S hS => by
  omega)
theorem M54_2a (i : Int) (xs : List AV) (k : KC) : headedK C54 (loopB Tryd.f54 0) [(2, .ptr 0 0 0), (5, .int .i64 i)] [.cells 0 xs] k =
  aIf (decide (i < 32)) (aIf (decide (0 ≤ IntKind.i64.wrap (i.tdiv 8))) (aIf (decide (IntKind.i64.wrap (i.tdiv 8) < 4)) (aIf (decide (0 + (IntKind.i64.wrap (i.tdiv 8)).toNat * 1 + 1 ≤ xs.length)) (aIf ((xs.getD (0 + (IntKind.i64.wrap (i.tdiv 8)).toNat * 1) AV.junk).isInt IntKind.u8) (aIf (decide (IntKind.i64.wrap (7 - i.tmod 8) < 0)) none (aIf (IntKind.u8.wrap (↑(BitVec.ofInt 8 ((xs.getD (0 + (IntKind.i64.wrap (i.tdiv 8)).toNat * 1) AV.junk).toInt.fdiv (2 ^ min (IntKind.i64.wrap (7 - i.tmod 8)).toNat 8)) &&& BitVec.ofInt 8 1).toNat : Int) == 1) (k AExit.ret [(4, AV.bool false)] [AO.cells 0 xs]) (k AExit.normal [(2, AV.ptr 0 0 0), (5, AV.int IntKind.i64 (IntKind.i64.wrap (i + 1)))] [AO.cells 0 xs]))) none) none) none) none) (k (AExit.exit 0) [(2, AV.ptr 0 0 0), (5, AV.int IntKind.i64 i), (8, AV.bool (decide (i < 32)))] [AO.cells 0 xs]) := by kernel_rfl
theorem L54_2_ok : LoopSum C54 (loopB Tryd.f54 0) L54_2 := LoopSum.of C54_ok L54_2_in (fun ts H => by
  unfold L54_2
  split
  · rename_i i xs
    rcases Bool.eq_false_or_eq_true (intsB .u8 xs && xs.length == 4 && decide (0 ≤ i) && decide (i ≤ 32)) with hp | hp
    · refine .inr ?_
      simp only [aIf_pos hp]
      simp only [Bool.and_eq_true, decide_eq_true_eq, beq_iff_eq] at hp
      obtain ⟨⟨⟨hu, hL⟩, h0⟩, h1⟩ := hp
      obtain ⟨i, rfl⟩ := Int.eq_ofNat_of_zero_le h0
      have key : ∀ j : Nat, j < 32 → ∀ k, headedK C54 (loopB Tryd.f54 0) [(2, .ptr 0 0 0), (5, .int .i64 (j : Int))] [.cells 0 xs] k = aIf (bitV xs j == 1) (k .ret [(4, .bool false)] [.cells 0 xs]) (k .normal [(2, .ptr 0 0 0), (5, .int .i64 ((j + 1 : Nat) : Int))] [.cells 0 xs]) := by
        intro j hj k
        obtain ⟨x, hx, he⟩ := u8_get hu (j / 8) (by omega)
        rw [M54_2a]
        simp only [decide_eq_true (show (j : Int) < 32 by omega), div8 (show j < 9223372036854775808 by omega), sh7 j, decide_eq_true (show ((j / 8 : Nat) : Int) < 4 by omega), decide_eq_true (show j / 8 + 1 ≤ xs.length by omega), show min (7 - j % 8) 8 = 7 - j % 8 by omega, he, bit8 hx (show 7 - j % 8 < 8 by omega), bitEq he, i64s (show j + 1 < 9223372036854775808 by omega), Int.toNat_natCast, Nat.zero_add, Nat.mul_one, isInt_self, AV.toInt, dnn, dnn', aIf_true, aIf_false, shr_eq]
      have hl : lowB xs (i : Int).toNat = noneB (fun j => bitV xs j == 1) (32 - i) i := by rw [Int.toNat_natCast]; unfold lowB; rw [hL]
      rw [hl]
      exact (iter_scan (N := 32) (ts := fun j => [(2, .ptr 0 0 0), (5, .int .i64 (j : Int))]) (H := [.cells 0 xs]) (b := fun j => bitV xs j == 1) (fun j hj hb k => (key j hj k).trans (aIf_pos hb)) (fun j hj hb k => (key j hj k).trans (aIf_neg hb))
        (fun k => by rw [M54_2a]; rfl) (by intro h; cases h) (by intro h; cases h) (32 - i) i (by omega)).imp fun m hm k => (hm k).symm
    · exact .inl fun k => by rw [aIf_neg hp]
  · exact .inl fun k => rfl)
theorem C54_loops : ∀ c, Tryd.f54.body = some c → LoopsOK C54 c := LoopsOK.of 1 (by kernel_rfl) (fun j hj S hS => by
  match j, hj with
  | 0, _ => rw [C54_l0] at hS; cases hS; exact L54_2_ok
  | n + 1, hj => omega)
noncomputable def S54 : FSpec := inlineK C54 Tryd.f54
theorem S54_ok : SpecOK Tryd.prog 54 S54 := inlineK_ok C54_ok Tryd.func54 C54_loops
theorem En54 : Enters Tryd.prog 54 := ⟨_, Tryd.func54, by decide, rfl⟩
noncomputable def R54 (args : List AV) : Res := S54 args [] encK
noncomputable def V54 : FSpec := leafK (.bool) R54
theorem V54_ok : SpecOK Tryd.prog 54 V54 := leafK_ok S54_ok (fun _ => rfl)
theorem N54 (x : Nat → Int) (i : Int) : S54 [.agg [.int .u8 (x 0), .int .u8 (x 1), .int .u8 (x 2), .int .u8 (x 3)], .int .i64 i] [] encK =
  aIf (true && (decide (0 ≤ x 0) && decide (x 0 ≤ 255)) && (true && (decide (0 ≤ x 1) && decide (x 1 ≤ 255)) && (true && (decide (0 ≤ x 2) && decide (x 2 ≤ 255)) && (true && (decide (0 ≤ x 3) && decide (x 3 ≤ 255)) && true))) && true && decide (0 ≤ i) && decide (i ≤ 32)) (aIf (Pl.lowB [AV.int IntKind.u8 (x 0), AV.int IntKind.u8 (x 1), AV.int IntKind.u8 (x 2), AV.int IntKind.u8 (x 3)] i.toNat) (some (AEnd.ret (AV.bool true), [])) (some (AEnd.ret (AV.bool false), []))) none := by kernel_rfl
theorem R54_is {x : Nat → Int} {i : Int} (hu : intsB .u8 [.int .u8 (x 0), .int .u8 (x 1), .int .u8 (x 2), .int .u8 (x 3)] = true) (h0 : 0 ≤ i) (h1 : i ≤ 32) : R54 [.agg [.int .u8 (x 0), .int .u8 (x 1), .int .u8 (x 2), .int .u8 (x 3)], .int .i64 i] = some (.ret (.bool (lowB [.int .u8 (x 0), .int .u8 (x 1), .int .u8 (x 2), .int .u8 (x 3)] i.toNat)), []) := by
  show S54 _ [] encK = _
  rw [N54]
  refine (aIf_pos ?_).trans ?_
  · have : (intsB .u8 [.int .u8 (x 0), .int .u8 (x 1), .int .u8 (x 2), .int .u8 (x 3)] && ([.int .u8 (x 0), .int .u8 (x 1), .int .u8 (x 2), .int .u8 (x 3)] : List AV).length == 4 && decide (0 ≤ i) && decide (i ≤ 32)) = true := by rw [hu, decide_eq_true h0, decide_eq_true h1]; rfl
    exact this
  · cases lowB [.int .u8 (x 0), .int .u8 (x 1), .int .u8 (x 2), .int .u8 (x 3)] i.toNat <;> rfl

/-- ferryman/ferrymanref02.Check4 -/
noncomputable def T31 : List (FuncId × FSpec) := [(54, V54)]
theorem T31_ok : TabOK Tryd.prog T31 := TabOK.cons En54 V54_ok (TabOK.nil _)
noncomputable def C31 : Ctx := (ctx E T31 [] [(0, [1]), (1, [18]), (2, [2]), (3, [2])] [] 19 70)
theorem C31_ok : CtxOK Tryd.prog C31 := ctx_ok E_ok E_flds mixed T31_ok
noncomputable def S31 : FSpec := inlineK C31 Tryd.f31
theorem S31_ok : SpecOK Tryd.prog 31 S31 := inlineK_ok C31_ok Tryd.func31 (fun _ _ => LoopsOK.none _)
theorem En31 : Enters Tryd.prog 31 := ⟨_, Tryd.func31, by decide, rfl⟩
noncomputable def R31 (args : List AV) : Res := S31 args [] encK
noncomputable def V31 : FSpec := leafK (.int .i64) R31
theorem V31_ok : SpecOK Tryd.prog 31 V31 := leafK_ok S31_ok (fun _ => rfl)
theorem N31 (x : Nat → Int) (n : Int) : S31 [.agg [.int .u8 (x 0), .int .u8 (x 1), .int .u8 (x 2), .int .u8 (x 3), .int .i64 n]] [] encK =
  aIf (decide (n < 0)) (some (AEnd.ret (AV.int IntKind.i64 22), [])) (aIf (decide (n > 32)) (some (AEnd.ret (AV.int IntKind.i64 22), [])) (aIf (shOK Sh.bool (R54 [AV.agg [AV.int IntKind.u8 (x 0), AV.int IntKind.u8 (x 1), AV.int IntKind.u8 (x 2), AV.int IntKind.u8 (x 3)], AV.int IntKind.i64 n])) (aIf (!(sel (R54 [AV.agg [AV.int IntKind.u8 (x 0), AV.int IntKind.u8 (x 1), AV.int IntKind.u8 (x 2), AV.int IntKind.u8 (x 3)], AV.int IntKind.i64 n]) []).toBool) (some (AEnd.ret (AV.int IntKind.i64 22), [])) (some (AEnd.ret (AV.int IntKind.i64 0), []))) none)) := by kernel_rfl
theorem R31_is {x : Nat → Int} {n : Int} (hx : b8 x) : R31 [.agg [.int .u8 (x 0), .int .u8 (x 1), .int .u8 (x 2), .int .u8 (x 3), .int .i64 n]] = some (.ret (.int .i64 (chkE 32 [.int .u8 (x 0), .int .u8 (x 1), .int .u8 (x 2), .int .u8 (x 3)] n)), []) := by
  show S31 _ [] encK = _
  have ti : ∀ k n, (AV.int k n).toInt = n := fun _ _ => rfl
  have tb : ∀ b, (AV.bool b).toBool = b := fun _ => rfl
  have si : ∀ k n, sel (some (AEnd.ret (AV.int k n), [])) [] = .int k n := fun _ _ => rfl
  have sb : ∀ b, sel (some (AEnd.ret (AV.bool b), [])) [] = .bool b := fun _ => rfl
  rw [N31]
  unfold chkE
  cases h1 : decide (n < 0)
  · cases h2 : decide (n > 32)
    · have g1 := of_decide_eq_false h1
      have g2 := of_decide_eq_false h2
      have e := R54_is (b8_4 hx) (i := n) (by omega) (by omega)
      simp only [e, shOK_ret, has_bool, sb, tb, aIf_true, aIf_false, cond_false]
      cases lowB [.int .u8 (x 0), .int .u8 (x 1), .int .u8 (x 2), .int .u8 (x 3)] n.toNat <;> rfl
    · rfl
  · rfl

/-- ferryman/ferrymanref02.Prefix4 -/
noncomputable def T62 : List (FuncId × FSpec) := [(31, V31), (72, S72), (74, S74), (75, S75), (76, S76)]
theorem T62_ok : TabOK Tryd.prog T62 := TabOK.cons En31 V31_ok (TabOK.cons En72 S72_ok (TabOK.cons En74 S74_ok (TabOK.cons En75 S75_ok (TabOK.cons En76 S76_ok (TabOK.nil _)))))
noncomputable def C62 : Ctx := (ctx E T62 [] [(0, [0, 2]), (1, [0, 2, 5]), (2, [0, 2, 5, 6, 7, 8]), (3, [0, 2, 5, 6, 7, 22]), (4, [2, 3, 4]), (5, [0, 2, 5, 6, 28]), (6, [2, 3, 4]), (7, [2, 5, 6, 9]), (8, [2, 5, 6, 7, 9]), (9, [2, 5, 6, 7, 9, 44]), (10, [2, 3, 4]), (11, [2, 5, 10]), (12, [2, 5, 10, 56]), (13, [2, 3, 4]), (14, [2, 3, 4])] [] 60 70)
theorem C62_ok : CtxOK Tryd.prog C62 := ctx_ok E_ok E_flds mixed T62_ok
noncomputable def S62 : FSpec := inlineK C62 Tryd.f62
theorem S62_ok : SpecOK Tryd.prog 62 S62 := inlineK_ok C62_ok Tryd.func62 (fun _ _ => LoopsOK.none _)
theorem En62 : Enters Tryd.prog 62 := ⟨_, Tryd.func62, by decide, rfl⟩

/-- ferryman/ferrymanlaw10.known -/
noncomputable def T39 : List (FuncId × FSpec) := [(61, S61), (62, S62)]
theorem T39_ok : TabOK Tryd.prog T39 := TabOK.cons En61 S61_ok (TabOK.cons En62 S62_ok (TabOK.nil _))
noncomputable def C39 : Ctx := (ctx E T39 [] [(0, [0]), (1, [0, 1]), (2, [0, 1, 4]), (3, [0])] [] 20 70)
theorem C39_ok : CtxOK Tryd.prog C39 := ctx_ok E_ok E_flds mixed T39_ok
noncomputable def B39 : FSpec := inlineK C39 Tryd.f39
noncomputable def S39 : FSpec := constK (AV.agg [.int .u8 32, .int .u8 1, .int .u8 13, .int .u8 184, .int .u8 0, .int .u8 0, .int .u8 0, .int .u8 0, .int .u8 0, .int .u8 0, .int .u8 0, .int .u8 0, .int .u8 0, .int .u8 0, .int .u8 0, .int .u8 0, .int .i64 40, .int .u8 192, .int .u8 0, .int .u8 2, .int .u8 0, .int .i64 24, .int .i64 16, .int .i64 6, .bool false])
theorem B39_ok : SpecOK Tryd.prog 39 B39 := inlineK_ok C39_ok Tryd.func39 (fun _ _ => LoopsOK.none _)
theorem B39_is (k : KE) : B39 [] [] k = k (.ret (AV.agg [.int .u8 32, .int .u8 1, .int .u8 13, .int .u8 184, .int .u8 0, .int .u8 0, .int .u8 0, .int .u8 0, .int .u8 0, .int .u8 0, .int .u8 0, .int .u8 0, .int .u8 0, .int .u8 0, .int .u8 0, .int .u8 0, .int .i64 40, .int .u8 192, .int .u8 0, .int .u8 2, .int .u8 0, .int .i64 24, .int .i64 16, .int .i64 6, .bool false])) [] := by kernel_rfl
theorem S39_ok : SpecOK Tryd.prog 39 S39 := constK_ok B39_ok B39_is
theorem En39 : Enters Tryd.prog 39 := ⟨_, Tryd.func39, by decide, rfl⟩

/-- ferryman/ferrymanref02.zeros -/
noncomputable def T63 : List (FuncId × FSpec) := []
theorem T63_ok : TabOK Tryd.prog T63 := TabOK.nil _
noncomputable def C63 : Ctx := (ctx E T63 [] [(0, [0, 1]), (1, [0, 1, 5]), (2, [0, 1, 5, 20]), (3, [0, 1, 5]), (4, [4]), (1000002, [0, 1, 5])] [] 24 70)
theorem C63_ok : CtxOK Tryd.prog C63 := ctx_ok E_ok E_flds mixed T63_ok
noncomputable def S63 : FSpec := inlineK C63 Tryd.f63
theorem S63_ok : SpecOK Tryd.prog 63 S63 := inlineK_ok C63_ok Tryd.func63 (fun _ _ => LoopsOK.none _)
theorem En63 : Enters Tryd.prog 63 := ⟨_, Tryd.func63, by decide, rfl⟩

/-- internal/strconv.small -/
noncomputable def T84 : List (FuncId × FSpec) := []
theorem T84_ok : TabOK Tryd.prog T84 := TabOK.nil _
noncomputable def C84 : Ctx := (ctx E T84 [] [(0, [0]), (1, [0, 4]), (2, [2]), (3, [2])] [] 15 70)
theorem C84_ok : CtxOK Tryd.prog C84 := ctx_ok E_ok E_flds mixed T84_ok
noncomputable def S84 : FSpec := inlineK C84 Tryd.f84
theorem S84_ok : SpecOK Tryd.prog 84 S84 := inlineK_ok C84_ok Tryd.func84 (fun _ _ => LoopsOK.none _)
theorem En84 : Enters Tryd.prog 84 := ⟨_, Tryd.func84, by decide, rfl⟩

/-- internal/strconv.log10Pow2 -/
noncomputable def T92 : List (FuncId × FSpec) := []
theorem T92_ok : TabOK Tryd.prog T92 := TabOK.nil _
noncomputable def C92 : Ctx := (ctx E T92 [] [(0, [0]), (1, [2])] [] 6 70)
theorem C92_ok : CtxOK Tryd.prog C92 := ctx_ok E_ok E_flds mixed T92_ok
noncomputable def S92 : FSpec := inlineK C92 Tryd.f92
theorem S92_ok : SpecOK Tryd.prog 92 S92 := inlineK_ok C92_ok Tryd.func92 (fun _ _ => LoopsOK.none _)
theorem En92 : Enters Tryd.prog 92 := ⟨_, Tryd.func92, by decide, rfl⟩

/-- math/bits.Len64 -/
noncomputable def T93 : List (FuncId × FSpec) := []
theorem T93_ok : TabOK Tryd.prog T93 := TabOK.nil _
noncomputable def C93 : Ctx := (ctx E T93 [] [(0, [0, 2]), (1, [0, 2, 4]), (2, [0]), (3, [0, 2]), (4, [0, 2, 8]), (5, [0, 2]), (6, [0, 2]), (7, [0, 2, 14]), (8, [0, 2]), (9, [0, 2]), (10, [2])] [] 25 70)
theorem C93_ok : CtxOK Tryd.prog C93 := ctx_ok E_ok E_flds mixed T93_ok
noncomputable def S93 : FSpec := inlineK C93 Tryd.f93
theorem S93_ok : SpecOK Tryd.prog 93 S93 := inlineK_ok C93_ok Tryd.func93 (fun _ _ => LoopsOK.none _)
theorem En93 : Enters Tryd.prog 93 := ⟨_, Tryd.func93, by decide, rfl⟩

/-- internal/strconv.bool2[int] -/
noncomputable def T94 : List (FuncId × FSpec) := []
theorem T94_ok : TabOK Tryd.prog T94 := TabOK.nil _
noncomputable def C94 : Ctx := (ctx E T94 [] [(0, [0]), (1, [3]), (2, [2]), (3, [2])] [] 4 70)
theorem C94_ok : CtxOK Tryd.prog C94 := ctx_ok E_ok E_flds mixed T94_ok
noncomputable def S94 : FSpec := inlineK C94 Tryd.f94
theorem S94_ok : SpecOK Tryd.prog 94 S94 := inlineK_ok C94_ok Tryd.func94 (fun _ _ => LoopsOK.none _)
theorem En94 : Enters Tryd.prog 94 := ⟨_, Tryd.func94, by decide, rfl⟩

/-- internal/strconv.numDigits -/
noncomputable def T85 : List (FuncId × FSpec) := [(92, S92), (93, S93), (94, S94)]
theorem T85_ok : TabOK Tryd.prog T85 := TabOK.cons En92 S92_ok (TabOK.cons En93 S93_ok (TabOK.cons En94 S94_ok (TabOK.nil _)))
noncomputable def C85 : Ctx := (ctx E T85 [] [(0, [0]), (1, [0, 3]), (2, [2])] [] 15 70)
theorem C85_ok : CtxOK Tryd.prog C85 := ctx_ok E_ok E_flds mixed T85_ok
noncomputable def S85 : FSpec := inlineK C85 Tryd.f85
theorem S85_ok : SpecOK Tryd.prog 85 S85 := inlineK_ok C85_ok Tryd.func85 (fun _ _ => LoopsOK.none _)
theorem En85 : Enters Tryd.prog 85 := ⟨_, Tryd.func85, by decide, rfl⟩

/-- internal/strconv.formatBase10 -/
noncomputable def T86 : List (FuncId × FSpec) := []
theorem T86_ok : TabOK Tryd.prog T86 := TabOK.nil _
noncomputable def C86 : Ctx := (ctx E T86 [] [(0, [0, 1, 4]), (1, [0, 1, 4, 20]), (2, [0, 1, 4, 5]), (3, [0, 1, 4, 5]), (4, [0, 1, 4, 6, 7]), (5, [0, 1, 4, 6, 8, 9]), (6, [0, 1, 4, 8, 9, 10, 11]), (7, [0, 1, 4, 8, 10, 11]), (8, [0, 1, 4, 10, 11]), (9, [0, 1, 4, 10]), (10, [0, 1, 4]), (11, [0, 1, 4]), (12, [0, 4, 12]), (13, [0, 4, 12, 99]), (14, [0, 4, 12, 13]), (15, [0, 4, 12, 13]), (16, [0, 4, 12, 14, 15]), (17, [0, 4, 12, 14]), (18, [0, 4, 12]), (19, [0, 4, 12]), (20, [0, 4, 12, 139]), (21, [0, 4, 12, 16]), (22, [0, 4, 12, 16]), (23, [0, 4, 12]), (24, [0, 4, 12]), (25, [0, 12, 161]), (26, []), (1000001, [0, 1, 4])] [] 167 70)
theorem C86_ok : CtxOK Tryd.prog C86 := ctx_ok E_ok E_flds mixed T86_ok
noncomputable def S86 : FSpec := inlineK C86 Tryd.f86
theorem S86_ok : SpecOK Tryd.prog 86 S86 := inlineK_ok C86_ok Tryd.func86 (fun _ _ => LoopsOK.none _)
theorem En86 : Enters Tryd.prog 86 := ⟨_, Tryd.func86, by decide, rfl⟩

/-- internal/strconv.isPowerOfTwo -/
noncomputable def T95 : List (FuncId × FSpec) := []
theorem T95_ok : TabOK Tryd.prog T95 := TabOK.nil _
noncomputable def C95 : Ctx := (ctx E T95 [] [(0, [0]), (1, [2])] [] 8 70)
theorem C95_ok : CtxOK Tryd.prog C95 := ctx_ok E_ok E_flds mixed T95_ok
noncomputable def S95 : FSpec := inlineK C95 Tryd.f95
theorem S95_ok : SpecOK Tryd.prog 95 S95 := inlineK_ok C95_ok Tryd.func95 (fun _ _ => LoopsOK.none _)
theorem En95 : Enters Tryd.prog 95 := ⟨_, Tryd.func95, by decide, rfl⟩

/-- math/bits.TrailingZeros32 -/
noncomputable def T98 : List (FuncId × FSpec) := []
theorem T98_ok : TabOK Tryd.prog T98 := TabOK.nil _
noncomputable def C98 : Ctx := (ctx E T98 [] [(0, [0]), (1, [0, 4]), (2, [2]), (3, [2])] [] 14 70)
theorem C98_ok : CtxOK Tryd.prog C98 := ctx_ok E_ok E_flds mixed T98_ok
noncomputable def S98 : FSpec := inlineK C98 Tryd.f98
theorem S98_ok : SpecOK Tryd.prog 98 S98 := inlineK_ok C98_ok Tryd.func98 (fun _ _ => LoopsOK.none _)
theorem En98 : Enters Tryd.prog 98 := ⟨_, Tryd.func98, by decide, rfl⟩

/-- math/bits.TrailingZeros64 -/
noncomputable def T99 : List (FuncId × FSpec) := []
theorem T99_ok : TabOK Tryd.prog T99 := TabOK.nil _
noncomputable def C99 : Ctx := (ctx E T99 [] [(0, [0]), (1, [0, 4]), (2, [2]), (3, [2])] [] 14 70)
theorem C99_ok : CtxOK Tryd.prog C99 := ctx_ok E_ok E_flds mixed T99_ok
noncomputable def S99 : FSpec := inlineK C99 Tryd.f99
theorem S99_ok : SpecOK Tryd.prog 99 S99 := inlineK_ok C99_ok Tryd.func99 (fun _ _ => LoopsOK.none _)
theorem En99 : Enters Tryd.prog 99 := ⟨_, Tryd.func99, by decide, rfl⟩

/-- math/bits.TrailingZeros -/
noncomputable def T96 : List (FuncId × FSpec) := [(98, S98), (99, S99)]
theorem T96_ok : TabOK Tryd.prog T96 := TabOK.cons En98 S98_ok (TabOK.cons En99 S99_ok (TabOK.nil _))
noncomputable def C96 : Ctx := (ctx E T96 [] [(0, [0]), (1, [2]), (2, [2])] [] 8 70)
theorem C96_ok : CtxOK Tryd.prog C96 := ctx_ok E_ok E_flds mixed T96_ok
noncomputable def S96 : FSpec := inlineK C96 Tryd.f96
theorem S96_ok : SpecOK Tryd.prog 96 S96 := inlineK_ok C96_ok Tryd.func96 (fun _ _ => LoopsOK.none _)
theorem En96 : Enters Tryd.prog 96 := ⟨_, Tryd.func96, by decide, rfl⟩

/-- internal/strconv.formatBits -/
noncomputable def T87 : List (FuncId × FSpec) := [(95, S95), (96, S96)]
theorem T87_ok : TabOK Tryd.prog T87 := TabOK.cons En95 S95_ok (TabOK.cons En96 S96_ok (TabOK.nil _))
noncomputable def C87 : Ctx := (ctx E T87 [] [(0, [0, 1, 2, 3, 4, 10, 11]), (1, [0, 1, 2, 3, 4, 10, 11, 28]), (2, [0, 1, 2, 3, 4, 10, 11]), (3, [0, 1, 2, 3, 4, 10, 11, 12]), (4, [0, 1, 2, 3, 4, 10, 11, 12, 13]), (5, [0, 1, 2, 3, 4, 10, 11, 12, 13, 30]), (6, [0, 1, 2, 3, 4, 10, 11, 12, 13]), (7, [0, 1, 2, 3, 4, 10, 11, 12, 13, 34]), (8, [0, 1, 2, 3, 4, 10, 11, 12, 13, 14]), (9, [0, 1, 2, 3, 4, 10, 11, 12, 13, 14, 15]), (10, [0, 1, 3, 4, 10, 11, 12, 13, 14, 15, 16]), (11, [0, 1, 3, 4, 10, 11, 12, 13, 14, 15, 16, 46]), (12, [0, 1, 3, 4, 10, 11, 12, 13, 14, 15, 16]), (13, [0, 1, 3, 4, 10, 11, 12, 13, 14, 15, 16]), (14, [0, 1, 3, 4, 10, 11, 12, 13, 14, 15, 16]), (15, [0, 1, 3, 4, 10, 11, 12, 13]), (16, [0, 3, 4, 10, 11, 12, 13]), (17, [0, 1, 3, 4, 10, 11, 12, 13, 17]), (18, [0, 1, 3, 4, 10, 11, 12, 13, 17, 68]), (19, [0, 1, 3, 4, 10, 11, 12, 13, 17]), (20, [0, 1, 3, 4, 10, 11, 12, 13, 17, 18]), (21, [0, 3, 4, 10, 11, 12, 13, 17, 18]), (22, [0, 1, 3, 4, 10, 11, 12, 13, 17]), (23, [0, 1, 3, 4, 10, 11, 12, 13]), (24, [0, 3, 4, 10, 11, 12, 13]), (25, [0, 4, 10, 11, 12, 13, 89]), (26, [0, 4, 10, 11, 12, 13]), (27, [0, 4, 10, 11, 12, 13]), (28, [0, 10, 11, 12, 13, 94]), (29, [10, 11]), (30, [10, 11]), (1000011, [0, 1, 3, 4, 10, 11, 12, 13, 14, 15, 16]), (1000018, [0, 1, 3, 4, 10, 11, 12, 13, 17])] [] 102 70)
theorem C87_ok : CtxOK Tryd.prog C87 := ctx_ok E_ok E_flds mixed T87_ok
noncomputable def S87 : FSpec := inlineK C87 Tryd.f87
theorem S87_ok : SpecOK Tryd.prog 87 S87 := inlineK_ok C87_ok Tryd.func87 (fun _ _ => LoopsOK.none _)
theorem En87 : Enters Tryd.prog 87 := ⟨_, Tryd.func87, by decide, rfl⟩

/-- internal/strconv.FormatInt -/
noncomputable def T77 : List (FuncId × FSpec) := [(84, S84), (85, S85), (86, S86), (87, S87)]
theorem T77_ok : TabOK Tryd.prog T77 := TabOK.cons En84 S84_ok (TabOK.cons En85 S85_ok (TabOK.cons En86 S86_ok (TabOK.cons En87 S87_ok (TabOK.nil _))))
noncomputable def C77 : Ctx := (ctx E T77 [] [(0, [0, 1]), (1, [0, 1, 11]), (2, [0, 17]), (3, [4]), (4, [0, 5]), (5, [0, 5, 6]), (6, [0, 5, 6, 23]), (7, [0, 5, 6]), (8, [0, 5, 6, 7]), (9, [0, 5, 7]), (10, [5, 7, 34]), (11, [5, 7]), (12, [4]), (13, [4]), (14, [9]), (15, [4])] [] 54 70)
theorem C77_ok : CtxOK Tryd.prog C77 := ctx_ok E_ok E_flds mixed T77_ok
noncomputable def S77 : FSpec := inlineK C77 Tryd.f77
theorem S77_ok : SpecOK Tryd.prog 77 S77 := inlineK_ok C77_ok Tryd.func77 (fun _ _ => LoopsOK.none _)
theorem En77 : Enters Tryd.prog 77 := ⟨_, Tryd.func77, by decide, rfl⟩

/-- strconv.FormatInt -/
noncomputable def T64 : List (FuncId × FSpec) := [(77, S77)]
theorem T64_ok : TabOK Tryd.prog T64 := TabOK.cons En77 S77_ok (TabOK.nil _)
noncomputable def C64 : Ctx := (ctx E T64 [] [(0, [0, 1]), (1, [4])] [] 8 70)
theorem C64_ok : CtxOK Tryd.prog C64 := ctx_ok E_ok E_flds mixed T64_ok
noncomputable def S64 : FSpec := inlineK C64 Tryd.f64
theorem S64_ok : SpecOK Tryd.prog 64 S64 := inlineK_ok C64_ok Tryd.func64 (fun _ _ => LoopsOK.none _)
theorem En64 : Enters Tryd.prog 64 := ⟨_, Tryd.func64, by decide, rfl⟩

/-- ferryman/ferrymanref02.Text6 -/
noncomputable def T40 : List (FuncId × FSpec) := [(63, S63), (64, S64)]
theorem T40_ok : TabOK Tryd.prog T40 := TabOK.cons En63 S63_ok (TabOK.cons En64 S64_ok (TabOK.nil _))
noncomputable def C40 : Ctx := (ctx E T40 [] [(0, [1]), (1, [1, 3]), (2, [1, 3, 4]), (3, [1, 3, 4, 11]), (4, [1, 3, 4]), (5, [1, 3, 4]), (6, [3, 5, 6]), (7, [3, 5, 6, 7]), (8, [3, 5, 6, 7, 31]), (9, [3, 5, 6, 7]), (10, [3, 5, 6, 7, 38]), (11, [3, 5, 6, 7]), (12, [3, 5, 6, 8]), (13, [3, 5, 6, 8, 9]), (14, [3, 5, 6, 8, 9, 44]), (15, [3, 5, 6, 8, 9]), (16, [3, 5, 6, 8, 9, 49]), (17, [3, 5, 6, 8, 9]), (18, [3, 5, 6, 8, 9]), (19, [3, 5, 6, 8, 9, 65]), (20, [3, 5, 6, 8, 9]), (21, [3, 5, 6, 8, 9]), (22, [2]), (1000003, [1, 3, 4]), (1000008, [3, 5, 6, 7]), (1000014, [3, 5, 6, 8, 9])] [] 76 70)
theorem C40_ok : CtxOK Tryd.prog C40 := ctx_ok E_ok E_flds mixed T40_ok
noncomputable def S40 : FSpec := inlineK C40 Tryd.f40
theorem S40_ok : SpecOK Tryd.prog 40 S40 := inlineK_ok C40_ok Tryd.func40 (fun _ _ => LoopsOK.none _)
theorem En40 : Enters Tryd.prog 40 := ⟨_, Tryd.func40, by decide, rfl⟩
noncomputable def R40 (args : List AV) : Res := S40 args [] encK
noncomputable def V40 : FSpec := leafK (.str) R40
theorem V40_ok : SpecOK Tryd.prog 40 V40 := leafK_ok S40_ok (fun _ => rfl)

/-- ferryman/ferrymanlaw10.awake -/
noncomputable def T12 : List (FuncId × FSpec) := [(10, V10), (39, S39), (40, V40)]
theorem T12_ok : TabOK Tryd.prog T12 := TabOK.cons En10 V10_ok (TabOK.cons En39 S39_ok (TabOK.cons En40 V40_ok (TabOK.nil _)))
noncomputable def C12 : Ctx := (ctx E T12 [] [(0, []), (1, [1, 2]), (2, [0])] [] 28 70)
theorem C12_ok : CtxOK Tryd.prog C12 := ctx_ok E_ok E_flds mixed T12_ok
noncomputable def B12 : FSpec := inlineK C12 Tryd.f12
noncomputable def S12 : FSpec := constK (AV.bool true)
theorem B12_ok : SpecOK Tryd.prog 12 B12 := inlineK_ok C12_ok Tryd.func12 (fun _ _ => LoopsOK.none _)
theorem N12 (k : KE) : B12 [] [] k =
  aIf (shOK (Sh.tup [Sh.agg [Sh.int IntKind.u8, Sh.int IntKind.u8, Sh.int IntKind.u8, Sh.int IntKind.u8, Sh.int IntKind.i64, Sh.int IntKind.i64, Sh.int IntKind.i64, Sh.int IntKind.u16, Sh.int IntKind.u8, Sh.int IntKind.u8, Sh.int IntKind.u8, Sh.int IntKind.u8, Sh.int IntKind.u8, Sh.int IntKind.u8, Sh.int IntKind.u8, Sh.int IntKind.u8, Sh.int IntKind.u8, Sh.int IntKind.u8, Sh.int IntKind.u8, Sh.int IntKind.u8, Sh.int IntKind.u8, Sh.int IntKind.u8, Sh.int IntKind.u8, Sh.int IntKind.u8, Sh.int IntKind.i64, Sh.int IntKind.u8, Sh.int IntKind.u8, Sh.int IntKind.u8, Sh.int IntKind.u8, Sh.int IntKind.u8, Sh.int IntKind.u8, Sh.int IntKind.u8, Sh.int IntKind.u8, Sh.int IntKind.u8, Sh.int IntKind.u8, Sh.int IntKind.u8, Sh.int IntKind.u8, Sh.int IntKind.u8, Sh.int IntKind.u8, Sh.int IntKind.u8, Sh.int IntKind.u8], Sh.int IntKind.i64]) (R10 [AV.agg [AV.int IntKind.u8 32, AV.int IntKind.u8 1, AV.int IntKind.u8 13, AV.int IntKind.u8 184, AV.int IntKind.u8 0, AV.int IntKind.u8 0, AV.int IntKind.u8 0, AV.int IntKind.u8 0, AV.int IntKind.u8 0, AV.int IntKind.u8 0, AV.int IntKind.u8 0, AV.int IntKind.u8 0, AV.int IntKind.u8 0, AV.int IntKind.u8 0, AV.int IntKind.u8 0, AV.int IntKind.u8 0, AV.int IntKind.i64 40, AV.int IntKind.u8 192, AV.int IntKind.u8 0, AV.int IntKind.u8 2, AV.int IntKind.u8 0, AV.int IntKind.i64 24, AV.int IntKind.i64 16, AV.int IntKind.i64 6, AV.bool false], AV.int IntKind.u64 4660])) (aIf ((sel (R10 [AV.agg [AV.int IntKind.u8 32, AV.int IntKind.u8 1, AV.int IntKind.u8 13, AV.int IntKind.u8 184, AV.int IntKind.u8 0, AV.int IntKind.u8 0, AV.int IntKind.u8 0, AV.int IntKind.u8 0, AV.int IntKind.u8 0, AV.int IntKind.u8 0, AV.int IntKind.u8 0, AV.int IntKind.u8 0, AV.int IntKind.u8 0, AV.int IntKind.u8 0, AV.int IntKind.u8 0, AV.int IntKind.u8 0, AV.int IntKind.i64 40, AV.int IntKind.u8 192, AV.int IntKind.u8 0, AV.int IntKind.u8 2, AV.int IntKind.u8 0, AV.int IntKind.i64 24, AV.int IntKind.i64 16, AV.int IntKind.i64 6, AV.bool false], AV.int IntKind.u64 4660]) [1]).toInt == 0) (aIf (shOK Sh.str (R40 [AV.agg [AV.int IntKind.u8 (sel (R10 [AV.agg [AV.int IntKind.u8 32, AV.int IntKind.u8 1, AV.int IntKind.u8 13, AV.int IntKind.u8 184, AV.int IntKind.u8 0, AV.int IntKind.u8 0, AV.int IntKind.u8 0, AV.int IntKind.u8 0, AV.int IntKind.u8 0, AV.int IntKind.u8 0, AV.int IntKind.u8 0, AV.int IntKind.u8 0, AV.int IntKind.u8 0, AV.int IntKind.u8 0, AV.int IntKind.u8 0, AV.int IntKind.u8 0, AV.int IntKind.i64 40, AV.int IntKind.u8 192, AV.int IntKind.u8 0, AV.int IntKind.u8 2, AV.int IntKind.u8 0, AV.int IntKind.i64 24, AV.int IntKind.i64 16, AV.int IntKind.i64 6, AV.bool false], AV.int IntKind.u64 4660]) [0, 25]).toInt, AV.int IntKind.u8 (sel (R10 [AV.agg [AV.int IntKind.u8 32, AV.int IntKind.u8 1, AV.int IntKind.u8 13, AV.int IntKind.u8 184, AV.int IntKind.u8 0, AV.int IntKind.u8 0, AV.int IntKind.u8 0, AV.int IntKind.u8 0, AV.int IntKind.u8 0, AV.int IntKind.u8 0, AV.int IntKind.u8 0, AV.int IntKind.u8 0, AV.int IntKind.u8 0, AV.int IntKind.u8 0, AV.int IntKind.u8 0, AV.int IntKind.u8 0, AV.int IntKind.i64 40, AV.int IntKind.u8 192, AV.int IntKind.u8 0, AV.int IntKind.u8 2, AV.int IntKind.u8 0, AV.int IntKind.i64 24, AV.int IntKind.i64 16, AV.int IntKind.i64 6, AV.bool false], AV.int IntKind.u64 4660]) [0, 26]).toInt, AV.int IntKind.u8 (sel (R10 [AV.agg [AV.int IntKind.u8 32, AV.int IntKind.u8 1, AV.int IntKind.u8 13, AV.int IntKind.u8 184, AV.int IntKind.u8 0, AV.int IntKind.u8 0, AV.int IntKind.u8 0, AV.int IntKind.u8 0, AV.int IntKind.u8 0, AV.int IntKind.u8 0, AV.int IntKind.u8 0, AV.int IntKind.u8 0, AV.int IntKind.u8 0, AV.int IntKind.u8 0, AV.int IntKind.u8 0, AV.int IntKind.u8 0, AV.int IntKind.i64 40, AV.int IntKind.u8 192, AV.int IntKind.u8 0, AV.int IntKind.u8 2, AV.int IntKind.u8 0, AV.int IntKind.i64 24, AV.int IntKind.i64 16, AV.int IntKind.i64 6, AV.bool false], AV.int IntKind.u64 4660]) [0, 27]).toInt, AV.int IntKind.u8 (sel (R10 [AV.agg [AV.int IntKind.u8 32, AV.int IntKind.u8 1, AV.int IntKind.u8 13, AV.int IntKind.u8 184, AV.int IntKind.u8 0, AV.int IntKind.u8 0, AV.int IntKind.u8 0, AV.int IntKind.u8 0, AV.int IntKind.u8 0, AV.int IntKind.u8 0, AV.int IntKind.u8 0, AV.int IntKind.u8 0, AV.int IntKind.u8 0, AV.int IntKind.u8 0, AV.int IntKind.u8 0, AV.int IntKind.u8 0, AV.int IntKind.i64 40, AV.int IntKind.u8 192, AV.int IntKind.u8 0, AV.int IntKind.u8 2, AV.int IntKind.u8 0, AV.int IntKind.i64 24, AV.int IntKind.i64 16, AV.int IntKind.i64 6, AV.bool false], AV.int IntKind.u64 4660]) [0, 28]).toInt, AV.int IntKind.u8 (sel (R10 [AV.agg [AV.int IntKind.u8 32, AV.int IntKind.u8 1, AV.int IntKind.u8 13, AV.int IntKind.u8 184, AV.int IntKind.u8 0, AV.int IntKind.u8 0, AV.int IntKind.u8 0, AV.int IntKind.u8 0, AV.int IntKind.u8 0, AV.int IntKind.u8 0, AV.int IntKind.u8 0, AV.int IntKind.u8 0, AV.int IntKind.u8 0, AV.int IntKind.u8 0, AV.int IntKind.u8 0, AV.int IntKind.u8 0, AV.int IntKind.i64 40, AV.int IntKind.u8 192, AV.int IntKind.u8 0, AV.int IntKind.u8 2, AV.int IntKind.u8 0, AV.int IntKind.i64 24, AV.int IntKind.i64 16, AV.int IntKind.i64 6, AV.bool false], AV.int IntKind.u64 4660]) [0, 29]).toInt, AV.int IntKind.u8 (sel (R10 [AV.agg [AV.int IntKind.u8 32, AV.int IntKind.u8 1, AV.int IntKind.u8 13, AV.int IntKind.u8 184, AV.int IntKind.u8 0, AV.int IntKind.u8 0, AV.int IntKind.u8 0, AV.int IntKind.u8 0, AV.int IntKind.u8 0, AV.int IntKind.u8 0, AV.int IntKind.u8 0, AV.int IntKind.u8 0, AV.int IntKind.u8 0, AV.int IntKind.u8 0, AV.int IntKind.u8 0, AV.int IntKind.u8 0, AV.int IntKind.i64 40, AV.int IntKind.u8 192, AV.int IntKind.u8 0, AV.int IntKind.u8 2, AV.int IntKind.u8 0, AV.int IntKind.i64 24, AV.int IntKind.i64 16, AV.int IntKind.i64 6, AV.bool false], AV.int IntKind.u64 4660]) [0, 30]).toInt, AV.int IntKind.u8 (sel (R10 [AV.agg [AV.int IntKind.u8 32, AV.int IntKind.u8 1, AV.int IntKind.u8 13, AV.int IntKind.u8 184, AV.int IntKind.u8 0, AV.int IntKind.u8 0, AV.int IntKind.u8 0, AV.int IntKind.u8 0, AV.int IntKind.u8 0, AV.int IntKind.u8 0, AV.int IntKind.u8 0, AV.int IntKind.u8 0, AV.int IntKind.u8 0, AV.int IntKind.u8 0, AV.int IntKind.u8 0, AV.int IntKind.u8 0, AV.int IntKind.i64 40, AV.int IntKind.u8 192, AV.int IntKind.u8 0, AV.int IntKind.u8 2, AV.int IntKind.u8 0, AV.int IntKind.i64 24, AV.int IntKind.i64 16, AV.int IntKind.i64 6, AV.bool false], AV.int IntKind.u64 4660]) [0, 31]).toInt, AV.int IntKind.u8 (sel (R10 [AV.agg [AV.int IntKind.u8 32, AV.int IntKind.u8 1, AV.int IntKind.u8 13, AV.int IntKind.u8 184, AV.int IntKind.u8 0, AV.int IntKind.u8 0, AV.int IntKind.u8 0, AV.int IntKind.u8 0, AV.int IntKind.u8 0, AV.int IntKind.u8 0, AV.int IntKind.u8 0, AV.int IntKind.u8 0, AV.int IntKind.u8 0, AV.int IntKind.u8 0, AV.int IntKind.u8 0, AV.int IntKind.u8 0, AV.int IntKind.i64 40, AV.int IntKind.u8 192, AV.int IntKind.u8 0, AV.int IntKind.u8 2, AV.int IntKind.u8 0, AV.int IntKind.i64 24, AV.int IntKind.i64 16, AV.int IntKind.i64 6, AV.bool false], AV.int IntKind.u64 4660]) [0, 32]).toInt, AV.int IntKind.u8 (sel (R10 [AV.agg [AV.int IntKind.u8 32, AV.int IntKind.u8 1, AV.int IntKind.u8 13, AV.int IntKind.u8 184, AV.int IntKind.u8 0, AV.int IntKind.u8 0, AV.int IntKind.u8 0, AV.int IntKind.u8 0, AV.int IntKind.u8 0, AV.int IntKind.u8 0, AV.int IntKind.u8 0, AV.int IntKind.u8 0, AV.int IntKind.u8 0, AV.int IntKind.u8 0, AV.int IntKind.u8 0, AV.int IntKind.u8 0, AV.int IntKind.i64 40, AV.int IntKind.u8 192, AV.int IntKind.u8 0, AV.int IntKind.u8 2, AV.int IntKind.u8 0, AV.int IntKind.i64 24, AV.int IntKind.i64 16, AV.int IntKind.i64 6, AV.bool false], AV.int IntKind.u64 4660]) [0, 33]).toInt, AV.int IntKind.u8 (sel (R10 [AV.agg [AV.int IntKind.u8 32, AV.int IntKind.u8 1, AV.int IntKind.u8 13, AV.int IntKind.u8 184, AV.int IntKind.u8 0, AV.int IntKind.u8 0, AV.int IntKind.u8 0, AV.int IntKind.u8 0, AV.int IntKind.u8 0, AV.int IntKind.u8 0, AV.int IntKind.u8 0, AV.int IntKind.u8 0, AV.int IntKind.u8 0, AV.int IntKind.u8 0, AV.int IntKind.u8 0, AV.int IntKind.u8 0, AV.int IntKind.i64 40, AV.int IntKind.u8 192, AV.int IntKind.u8 0, AV.int IntKind.u8 2, AV.int IntKind.u8 0, AV.int IntKind.i64 24, AV.int IntKind.i64 16, AV.int IntKind.i64 6, AV.bool false], AV.int IntKind.u64 4660]) [0, 34]).toInt, AV.int IntKind.u8 (sel (R10 [AV.agg [AV.int IntKind.u8 32, AV.int IntKind.u8 1, AV.int IntKind.u8 13, AV.int IntKind.u8 184, AV.int IntKind.u8 0, AV.int IntKind.u8 0, AV.int IntKind.u8 0, AV.int IntKind.u8 0, AV.int IntKind.u8 0, AV.int IntKind.u8 0, AV.int IntKind.u8 0, AV.int IntKind.u8 0, AV.int IntKind.u8 0, AV.int IntKind.u8 0, AV.int IntKind.u8 0, AV.int IntKind.u8 0, AV.int IntKind.i64 40, AV.int IntKind.u8 192, AV.int IntKind.u8 0, AV.int IntKind.u8 2, AV.int IntKind.u8 0, AV.int IntKind.i64 24, AV.int IntKind.i64 16, AV.int IntKind.i64 6, AV.bool false], AV.int IntKind.u64 4660]) [0, 35]).toInt, AV.int IntKind.u8 (sel (R10 [AV.agg [AV.int IntKind.u8 32, AV.int IntKind.u8 1, AV.int IntKind.u8 13, AV.int IntKind.u8 184, AV.int IntKind.u8 0, AV.int IntKind.u8 0, AV.int IntKind.u8 0, AV.int IntKind.u8 0, AV.int IntKind.u8 0, AV.int IntKind.u8 0, AV.int IntKind.u8 0, AV.int IntKind.u8 0, AV.int IntKind.u8 0, AV.int IntKind.u8 0, AV.int IntKind.u8 0, AV.int IntKind.u8 0, AV.int IntKind.i64 40, AV.int IntKind.u8 192, AV.int IntKind.u8 0, AV.int IntKind.u8 2, AV.int IntKind.u8 0, AV.int IntKind.i64 24, AV.int IntKind.i64 16, AV.int IntKind.i64 6, AV.bool false], AV.int IntKind.u64 4660]) [0, 36]).toInt, AV.int IntKind.u8 (sel (R10 [AV.agg [AV.int IntKind.u8 32, AV.int IntKind.u8 1, AV.int IntKind.u8 13, AV.int IntKind.u8 184, AV.int IntKind.u8 0, AV.int IntKind.u8 0, AV.int IntKind.u8 0, AV.int IntKind.u8 0, AV.int IntKind.u8 0, AV.int IntKind.u8 0, AV.int IntKind.u8 0, AV.int IntKind.u8 0, AV.int IntKind.u8 0, AV.int IntKind.u8 0, AV.int IntKind.u8 0, AV.int IntKind.u8 0, AV.int IntKind.i64 40, AV.int IntKind.u8 192, AV.int IntKind.u8 0, AV.int IntKind.u8 2, AV.int IntKind.u8 0, AV.int IntKind.i64 24, AV.int IntKind.i64 16, AV.int IntKind.i64 6, AV.bool false], AV.int IntKind.u64 4660]) [0, 37]).toInt, AV.int IntKind.u8 (sel (R10 [AV.agg [AV.int IntKind.u8 32, AV.int IntKind.u8 1, AV.int IntKind.u8 13, AV.int IntKind.u8 184, AV.int IntKind.u8 0, AV.int IntKind.u8 0, AV.int IntKind.u8 0, AV.int IntKind.u8 0, AV.int IntKind.u8 0, AV.int IntKind.u8 0, AV.int IntKind.u8 0, AV.int IntKind.u8 0, AV.int IntKind.u8 0, AV.int IntKind.u8 0, AV.int IntKind.u8 0, AV.int IntKind.u8 0, AV.int IntKind.i64 40, AV.int IntKind.u8 192, AV.int IntKind.u8 0, AV.int IntKind.u8 2, AV.int IntKind.u8 0, AV.int IntKind.i64 24, AV.int IntKind.i64 16, AV.int IntKind.i64 6, AV.bool false], AV.int IntKind.u64 4660]) [0, 38]).toInt, AV.int IntKind.u8 (sel (R10 [AV.agg [AV.int IntKind.u8 32, AV.int IntKind.u8 1, AV.int IntKind.u8 13, AV.int IntKind.u8 184, AV.int IntKind.u8 0, AV.int IntKind.u8 0, AV.int IntKind.u8 0, AV.int IntKind.u8 0, AV.int IntKind.u8 0, AV.int IntKind.u8 0, AV.int IntKind.u8 0, AV.int IntKind.u8 0, AV.int IntKind.u8 0, AV.int IntKind.u8 0, AV.int IntKind.u8 0, AV.int IntKind.u8 0, AV.int IntKind.i64 40, AV.int IntKind.u8 192, AV.int IntKind.u8 0, AV.int IntKind.u8 2, AV.int IntKind.u8 0, AV.int IntKind.i64 24, AV.int IntKind.i64 16, AV.int IntKind.i64 6, AV.bool false], AV.int IntKind.u64 4660]) [0, 39]).toInt, AV.int IntKind.u8 (sel (R10 [AV.agg [AV.int IntKind.u8 32, AV.int IntKind.u8 1, AV.int IntKind.u8 13, AV.int IntKind.u8 184, AV.int IntKind.u8 0, AV.int IntKind.u8 0, AV.int IntKind.u8 0, AV.int IntKind.u8 0, AV.int IntKind.u8 0, AV.int IntKind.u8 0, AV.int IntKind.u8 0, AV.int IntKind.u8 0, AV.int IntKind.u8 0, AV.int IntKind.u8 0, AV.int IntKind.u8 0, AV.int IntKind.u8 0, AV.int IntKind.i64 40, AV.int IntKind.u8 192, AV.int IntKind.u8 0, AV.int IntKind.u8 2, AV.int IntKind.u8 0, AV.int IntKind.i64 24, AV.int IntKind.i64 16, AV.int IntKind.i64 6, AV.bool false], AV.int IntKind.u64 4660]) [0, 40]).toInt]])) (aIf ((sel (R40 [AV.agg [AV.int IntKind.u8 (sel (R10 [AV.agg [AV.int IntKind.u8 32, AV.int IntKind.u8 1, AV.int IntKind.u8 13, AV.int IntKind.u8 184, AV.int IntKind.u8 0, AV.int IntKind.u8 0, AV.int IntKind.u8 0, AV.int IntKind.u8 0, AV.int IntKind.u8 0, AV.int IntKind.u8 0, AV.int IntKind.u8 0, AV.int IntKind.u8 0, AV.int IntKind.u8 0, AV.int IntKind.u8 0, AV.int IntKind.u8 0, AV.int IntKind.u8 0, AV.int IntKind.i64 40, AV.int IntKind.u8 192, AV.int IntKind.u8 0, AV.int IntKind.u8 2, AV.int IntKind.u8 0, AV.int IntKind.i64 24, AV.int IntKind.i64 16, AV.int IntKind.i64 6, AV.bool false], AV.int IntKind.u64 4660]) [0, 25]).toInt, AV.int IntKind.u8 (sel (R10 [AV.agg [AV.int IntKind.u8 32, AV.int IntKind.u8 1, AV.int IntKind.u8 13, AV.int IntKind.u8 184, AV.int IntKind.u8 0, AV.int IntKind.u8 0, AV.int IntKind.u8 0, AV.int IntKind.u8 0, AV.int IntKind.u8 0, AV.int IntKind.u8 0, AV.int IntKind.u8 0, AV.int IntKind.u8 0, AV.int IntKind.u8 0, AV.int IntKind.u8 0, AV.int IntKind.u8 0, AV.int IntKind.u8 0, AV.int IntKind.i64 40, AV.int IntKind.u8 192, AV.int IntKind.u8 0, AV.int IntKind.u8 2, AV.int IntKind.u8 0, AV.int IntKind.i64 24, AV.int IntKind.i64 16, AV.int IntKind.i64 6, AV.bool false], AV.int IntKind.u64 4660]) [0, 26]).toInt, AV.int IntKind.u8 (sel (R10 [AV.agg [AV.int IntKind.u8 32, AV.int IntKind.u8 1, AV.int IntKind.u8 13, AV.int IntKind.u8 184, AV.int IntKind.u8 0, AV.int IntKind.u8 0, AV.int IntKind.u8 0, AV.int IntKind.u8 0, AV.int IntKind.u8 0, AV.int IntKind.u8 0, AV.int IntKind.u8 0, AV.int IntKind.u8 0, AV.int IntKind.u8 0, AV.int IntKind.u8 0, AV.int IntKind.u8 0, AV.int IntKind.u8 0, AV.int IntKind.i64 40, AV.int IntKind.u8 192, AV.int IntKind.u8 0, AV.int IntKind.u8 2, AV.int IntKind.u8 0, AV.int IntKind.i64 24, AV.int IntKind.i64 16, AV.int IntKind.i64 6, AV.bool false], AV.int IntKind.u64 4660]) [0, 27]).toInt, AV.int IntKind.u8 (sel (R10 [AV.agg [AV.int IntKind.u8 32, AV.int IntKind.u8 1, AV.int IntKind.u8 13, AV.int IntKind.u8 184, AV.int IntKind.u8 0, AV.int IntKind.u8 0, AV.int IntKind.u8 0, AV.int IntKind.u8 0, AV.int IntKind.u8 0, AV.int IntKind.u8 0, AV.int IntKind.u8 0, AV.int IntKind.u8 0, AV.int IntKind.u8 0, AV.int IntKind.u8 0, AV.int IntKind.u8 0, AV.int IntKind.u8 0, AV.int IntKind.i64 40, AV.int IntKind.u8 192, AV.int IntKind.u8 0, AV.int IntKind.u8 2, AV.int IntKind.u8 0, AV.int IntKind.i64 24, AV.int IntKind.i64 16, AV.int IntKind.i64 6, AV.bool false], AV.int IntKind.u64 4660]) [0, 28]).toInt, AV.int IntKind.u8 (sel (R10 [AV.agg [AV.int IntKind.u8 32, AV.int IntKind.u8 1, AV.int IntKind.u8 13, AV.int IntKind.u8 184, AV.int IntKind.u8 0, AV.int IntKind.u8 0, AV.int IntKind.u8 0, AV.int IntKind.u8 0, AV.int IntKind.u8 0, AV.int IntKind.u8 0, AV.int IntKind.u8 0, AV.int IntKind.u8 0, AV.int IntKind.u8 0, AV.int IntKind.u8 0, AV.int IntKind.u8 0, AV.int IntKind.u8 0, AV.int IntKind.i64 40, AV.int IntKind.u8 192, AV.int IntKind.u8 0, AV.int IntKind.u8 2, AV.int IntKind.u8 0, AV.int IntKind.i64 24, AV.int IntKind.i64 16, AV.int IntKind.i64 6, AV.bool false], AV.int IntKind.u64 4660]) [0, 29]).toInt, AV.int IntKind.u8 (sel (R10 [AV.agg [AV.int IntKind.u8 32, AV.int IntKind.u8 1, AV.int IntKind.u8 13, AV.int IntKind.u8 184, AV.int IntKind.u8 0, AV.int IntKind.u8 0, AV.int IntKind.u8 0, AV.int IntKind.u8 0, AV.int IntKind.u8 0, AV.int IntKind.u8 0, AV.int IntKind.u8 0, AV.int IntKind.u8 0, AV.int IntKind.u8 0, AV.int IntKind.u8 0, AV.int IntKind.u8 0, AV.int IntKind.u8 0, AV.int IntKind.i64 40, AV.int IntKind.u8 192, AV.int IntKind.u8 0, AV.int IntKind.u8 2, AV.int IntKind.u8 0, AV.int IntKind.i64 24, AV.int IntKind.i64 16, AV.int IntKind.i64 6, AV.bool false], AV.int IntKind.u64 4660]) [0, 30]).toInt, AV.int IntKind.u8 (sel (R10 [AV.agg [AV.int IntKind.u8 32, AV.int IntKind.u8 1, AV.int IntKind.u8 13, AV.int IntKind.u8 184, AV.int IntKind.u8 0, AV.int IntKind.u8 0, AV.int IntKind.u8 0, AV.int IntKind.u8 0, AV.int IntKind.u8 0, AV.int IntKind.u8 0, AV.int IntKind.u8 0, AV.int IntKind.u8 0, AV.int IntKind.u8 0, AV.int IntKind.u8 0, AV.int IntKind.u8 0, AV.int IntKind.u8 0, AV.int IntKind.i64 40, AV.int IntKind.u8 192, AV.int IntKind.u8 0, AV.int IntKind.u8 2, AV.int IntKind.u8 0, AV.int IntKind.i64 24, AV.int IntKind.i64 16, AV.int IntKind.i64 6, AV.bool false], AV.int IntKind.u64 4660]) [0, 31]).toInt, AV.int IntKind.u8 (sel (R10 [AV.agg [AV.int IntKind.u8 32, AV.int IntKind.u8 1, AV.int IntKind.u8 13, AV.int IntKind.u8 184, AV.int IntKind.u8 0, AV.int IntKind.u8 0, AV.int IntKind.u8 0, AV.int IntKind.u8 0, AV.int IntKind.u8 0, AV.int IntKind.u8 0, AV.int IntKind.u8 0, AV.int IntKind.u8 0, AV.int IntKind.u8 0, AV.int IntKind.u8 0, AV.int IntKind.u8 0, AV.int IntKind.u8 0, AV.int IntKind.i64 40, AV.int IntKind.u8 192, AV.int IntKind.u8 0, AV.int IntKind.u8 2, AV.int IntKind.u8 0, AV.int IntKind.i64 24, AV.int IntKind.i64 16, AV.int IntKind.i64 6, AV.bool false], AV.int IntKind.u64 4660]) [0, 32]).toInt, AV.int IntKind.u8 (sel (R10 [AV.agg [AV.int IntKind.u8 32, AV.int IntKind.u8 1, AV.int IntKind.u8 13, AV.int IntKind.u8 184, AV.int IntKind.u8 0, AV.int IntKind.u8 0, AV.int IntKind.u8 0, AV.int IntKind.u8 0, AV.int IntKind.u8 0, AV.int IntKind.u8 0, AV.int IntKind.u8 0, AV.int IntKind.u8 0, AV.int IntKind.u8 0, AV.int IntKind.u8 0, AV.int IntKind.u8 0, AV.int IntKind.u8 0, AV.int IntKind.i64 40, AV.int IntKind.u8 192, AV.int IntKind.u8 0, AV.int IntKind.u8 2, AV.int IntKind.u8 0, AV.int IntKind.i64 24, AV.int IntKind.i64 16, AV.int IntKind.i64 6, AV.bool false], AV.int IntKind.u64 4660]) [0, 33]).toInt, AV.int IntKind.u8 (sel (R10 [AV.agg [AV.int IntKind.u8 32, AV.int IntKind.u8 1, AV.int IntKind.u8 13, AV.int IntKind.u8 184, AV.int IntKind.u8 0, AV.int IntKind.u8 0, AV.int IntKind.u8 0, AV.int IntKind.u8 0, AV.int IntKind.u8 0, AV.int IntKind.u8 0, AV.int IntKind.u8 0, AV.int IntKind.u8 0, AV.int IntKind.u8 0, AV.int IntKind.u8 0, AV.int IntKind.u8 0, AV.int IntKind.u8 0, AV.int IntKind.i64 40, AV.int IntKind.u8 192, AV.int IntKind.u8 0, AV.int IntKind.u8 2, AV.int IntKind.u8 0, AV.int IntKind.i64 24, AV.int IntKind.i64 16, AV.int IntKind.i64 6, AV.bool false], AV.int IntKind.u64 4660]) [0, 34]).toInt, AV.int IntKind.u8 (sel (R10 [AV.agg [AV.int IntKind.u8 32, AV.int IntKind.u8 1, AV.int IntKind.u8 13, AV.int IntKind.u8 184, AV.int IntKind.u8 0, AV.int IntKind.u8 0, AV.int IntKind.u8 0, AV.int IntKind.u8 0, AV.int IntKind.u8 0, AV.int IntKind.u8 0, AV.int IntKind.u8 0, AV.int IntKind.u8 0, AV.int IntKind.u8 0, AV.int IntKind.u8 0, AV.int IntKind.u8 0, AV.int IntKind.u8 0, AV.int IntKind.i64 40, AV.int IntKind.u8 192, AV.int IntKind.u8 0, AV.int IntKind.u8 2, AV.int IntKind.u8 0, AV.int IntKind.i64 24, AV.int IntKind.i64 16, AV.int IntKind.i64 6, AV.bool false], AV.int IntKind.u64 4660]) [0, 35]).toInt, AV.int IntKind.u8 (sel (R10 [AV.agg [AV.int IntKind.u8 32, AV.int IntKind.u8 1, AV.int IntKind.u8 13, AV.int IntKind.u8 184, AV.int IntKind.u8 0, AV.int IntKind.u8 0, AV.int IntKind.u8 0, AV.int IntKind.u8 0, AV.int IntKind.u8 0, AV.int IntKind.u8 0, AV.int IntKind.u8 0, AV.int IntKind.u8 0, AV.int IntKind.u8 0, AV.int IntKind.u8 0, AV.int IntKind.u8 0, AV.int IntKind.u8 0, AV.int IntKind.i64 40, AV.int IntKind.u8 192, AV.int IntKind.u8 0, AV.int IntKind.u8 2, AV.int IntKind.u8 0, AV.int IntKind.i64 24, AV.int IntKind.i64 16, AV.int IntKind.i64 6, AV.bool false], AV.int IntKind.u64 4660]) [0, 36]).toInt, AV.int IntKind.u8 (sel (R10 [AV.agg [AV.int IntKind.u8 32, AV.int IntKind.u8 1, AV.int IntKind.u8 13, AV.int IntKind.u8 184, AV.int IntKind.u8 0, AV.int IntKind.u8 0, AV.int IntKind.u8 0, AV.int IntKind.u8 0, AV.int IntKind.u8 0, AV.int IntKind.u8 0, AV.int IntKind.u8 0, AV.int IntKind.u8 0, AV.int IntKind.u8 0, AV.int IntKind.u8 0, AV.int IntKind.u8 0, AV.int IntKind.u8 0, AV.int IntKind.i64 40, AV.int IntKind.u8 192, AV.int IntKind.u8 0, AV.int IntKind.u8 2, AV.int IntKind.u8 0, AV.int IntKind.i64 24, AV.int IntKind.i64 16, AV.int IntKind.i64 6, AV.bool false], AV.int IntKind.u64 4660]) [0, 37]).toInt, AV.int IntKind.u8 (sel (R10 [AV.agg [AV.int IntKind.u8 32, AV.int IntKind.u8 1, AV.int IntKind.u8 13, AV.int IntKind.u8 184, AV.int IntKind.u8 0, AV.int IntKind.u8 0, AV.int IntKind.u8 0, AV.int IntKind.u8 0, AV.int IntKind.u8 0, AV.int IntKind.u8 0, AV.int IntKind.u8 0, AV.int IntKind.u8 0, AV.int IntKind.u8 0, AV.int IntKind.u8 0, AV.int IntKind.u8 0, AV.int IntKind.u8 0, AV.int IntKind.i64 40, AV.int IntKind.u8 192, AV.int IntKind.u8 0, AV.int IntKind.u8 2, AV.int IntKind.u8 0, AV.int IntKind.i64 24, AV.int IntKind.i64 16, AV.int IntKind.i64 6, AV.bool false], AV.int IntKind.u64 4660]) [0, 38]).toInt, AV.int IntKind.u8 (sel (R10 [AV.agg [AV.int IntKind.u8 32, AV.int IntKind.u8 1, AV.int IntKind.u8 13, AV.int IntKind.u8 184, AV.int IntKind.u8 0, AV.int IntKind.u8 0, AV.int IntKind.u8 0, AV.int IntKind.u8 0, AV.int IntKind.u8 0, AV.int IntKind.u8 0, AV.int IntKind.u8 0, AV.int IntKind.u8 0, AV.int IntKind.u8 0, AV.int IntKind.u8 0, AV.int IntKind.u8 0, AV.int IntKind.u8 0, AV.int IntKind.i64 40, AV.int IntKind.u8 192, AV.int IntKind.u8 0, AV.int IntKind.u8 2, AV.int IntKind.u8 0, AV.int IntKind.i64 24, AV.int IntKind.i64 16, AV.int IntKind.i64 6, AV.bool false], AV.int IntKind.u64 4660]) [0, 39]).toInt, AV.int IntKind.u8 (sel (R10 [AV.agg [AV.int IntKind.u8 32, AV.int IntKind.u8 1, AV.int IntKind.u8 13, AV.int IntKind.u8 184, AV.int IntKind.u8 0, AV.int IntKind.u8 0, AV.int IntKind.u8 0, AV.int IntKind.u8 0, AV.int IntKind.u8 0, AV.int IntKind.u8 0, AV.int IntKind.u8 0, AV.int IntKind.u8 0, AV.int IntKind.u8 0, AV.int IntKind.u8 0, AV.int IntKind.u8 0, AV.int IntKind.u8 0, AV.int IntKind.i64 40, AV.int IntKind.u8 192, AV.int IntKind.u8 0, AV.int IntKind.u8 2, AV.int IntKind.u8 0, AV.int IntKind.i64 24, AV.int IntKind.i64 16, AV.int IntKind.i64 6, AV.bool false], AV.int IntKind.u64 4660]) [0, 40]).toInt]]) []).toStr.toList == [(ByteArray.mk (Array.mk [OfNat.ofNat 50, OfNat.ofNat 48, OfNat.ofNat 48, OfNat.ofNat 49, OfNat.ofNat 58, OfNat.ofNat 100, OfNat.ofNat 98, OfNat.ofNat 56, OfNat.ofNat 58, OfNat.ofNat 49, OfNat.ofNat 50, OfNat.ofNat 58, OfNat.ofNat 51, OfNat.ofNat 52, OfNat.ofNat 48, OfNat.ofNat 48, OfNat.ofNat 58, OfNat.ofNat 48, OfNat.ofNat 58, OfNat.ofNat 99, OfNat.ofNat 48, OfNat.ofNat 48, OfNat.ofNat 48, OfNat.ofNat 58, OfNat.ofNat 50, OfNat.ofNat 49, OfNat.ofNat 50, OfNat.ofNat 58, OfNat.ofNat 51, OfNat.ofNat 52])).get! 0, (ByteArray.mk (Array.mk [OfNat.ofNat 50, OfNat.ofNat 48, OfNat.ofNat 48, OfNat.ofNat 49, OfNat.ofNat 58, OfNat.ofNat 100, OfNat.ofNat 98, OfNat.ofNat 56, OfNat.ofNat 58, OfNat.ofNat 49, OfNat.ofNat 50, OfNat.ofNat 58, OfNat.ofNat 51, OfNat.ofNat 52, OfNat.ofNat 48, OfNat.ofNat 48, OfNat.ofNat 58, OfNat.ofNat 48, OfNat.ofNat 58, OfNat.ofNat 99, OfNat.ofNat 48, OfNat.ofNat 48, OfNat.ofNat 48, OfNat.ofNat 58, OfNat.ofNat 50, OfNat.ofNat 49, OfNat.ofNat 50, OfNat.ofNat 58, OfNat.ofNat 51, OfNat.ofNat 52])).get! 1, (ByteArray.mk (Array.mk [OfNat.ofNat 50, OfNat.ofNat 48, OfNat.ofNat 48, OfNat.ofNat 49, OfNat.ofNat 58, OfNat.ofNat 100, OfNat.ofNat 98, OfNat.ofNat 56, OfNat.ofNat 58, OfNat.ofNat 49, OfNat.ofNat 50, OfNat.ofNat 58, OfNat.ofNat 51, OfNat.ofNat 52, OfNat.ofNat 48, OfNat.ofNat 48, OfNat.ofNat 58, OfNat.ofNat 48, OfNat.ofNat 58, OfNat.ofNat 99, OfNat.ofNat 48, OfNat.ofNat 48, OfNat.ofNat 48, OfNat.ofNat 58, OfNat.ofNat 50, OfNat.ofNat 49, OfNat.ofNat 50, OfNat.ofNat 58, OfNat.ofNat 51, OfNat.ofNat 52])).get! 2, (ByteArray.mk (Array.mk [OfNat.ofNat 50, OfNat.ofNat 48, OfNat.ofNat 48, OfNat.ofNat 49, OfNat.ofNat 58, OfNat.ofNat 100, OfNat.ofNat 98, OfNat.ofNat 56, OfNat.ofNat 58, OfNat.ofNat 49, OfNat.ofNat 50, OfNat.ofNat 58, OfNat.ofNat 51, OfNat.ofNat 52, OfNat.ofNat 48, OfNat.ofNat 48, OfNat.ofNat 58, OfNat.ofNat 48, OfNat.ofNat 58, OfNat.ofNat 99, OfNat.ofNat 48, OfNat.ofNat 48, OfNat.ofNat 48, OfNat.ofNat 58, OfNat.ofNat 50, OfNat.ofNat 49, OfNat.ofNat 50, OfNat.ofNat 58, OfNat.ofNat 51, OfNat.ofNat 52])).get! 3, (ByteArray.mk (Array.mk [OfNat.ofNat 50, OfNat.ofNat 48, OfNat.ofNat 48, OfNat.ofNat 49, OfNat.ofNat 58, OfNat.ofNat 100, OfNat.ofNat 98, OfNat.ofNat 56, OfNat.ofNat 58, OfNat.ofNat 49, OfNat.ofNat 50, OfNat.ofNat 58, OfNat.ofNat 51, OfNat.ofNat 52, OfNat.ofNat 48, OfNat.ofNat 48, OfNat.ofNat 58, OfNat.ofNat 48, OfNat.ofNat 58, OfNat.ofNat 99, OfNat.ofNat 48, OfNat.ofNat 48, OfNat.ofNat 48, OfNat.ofNat 58, OfNat.ofNat 50, OfNat.ofNat 49, OfNat.ofNat 50, OfNat.ofNat 58, OfNat.ofNat 51, OfNat.ofNat 52])).get! 4, (ByteArray.mk (Array.mk [OfNat.ofNat 50, OfNat.ofNat 48, OfNat.ofNat 48, OfNat.ofNat 49, OfNat.ofNat 58, OfNat.ofNat 100, OfNat.ofNat 98, OfNat.ofNat 56, OfNat.ofNat 58, OfNat.ofNat 49, OfNat.ofNat 50, OfNat.ofNat 58, OfNat.ofNat 51, OfNat.ofNat 52, OfNat.ofNat 48, OfNat.ofNat 48, OfNat.ofNat 58, OfNat.ofNat 48, OfNat.ofNat 58, OfNat.ofNat 99, OfNat.ofNat 48, OfNat.ofNat 48, OfNat.ofNat 48, OfNat.ofNat 58, OfNat.ofNat 50, OfNat.ofNat 49, OfNat.ofNat 50, OfNat.ofNat 58, OfNat.ofNat 51, OfNat.ofNat 52])).get! 5, (ByteArray.mk (Array.mk [OfNat.ofNat 50, OfNat.ofNat 48, OfNat.ofNat 48, OfNat.ofNat 49, OfNat.ofNat 58, OfNat.ofNat 100, OfNat.ofNat 98, OfNat.ofNat 56, OfNat.ofNat 58, OfNat.ofNat 49, OfNat.ofNat 50, OfNat.ofNat 58, OfNat.ofNat 51, OfNat.ofNat 52, OfNat.ofNat 48, OfNat.ofNat 48, OfNat.ofNat 58, OfNat.ofNat 48, OfNat.ofNat 58, OfNat.ofNat 99, OfNat.ofNat 48, OfNat.ofNat 48, OfNat.ofNat 48, OfNat.ofNat 58, OfNat.ofNat 50, OfNat.ofNat 49, OfNat.ofNat 50, OfNat.ofNat 58, OfNat.ofNat 51, OfNat.ofNat 52])).get! 6, (ByteArray.mk (Array.mk [OfNat.ofNat 50, OfNat.ofNat 48, OfNat.ofNat 48, OfNat.ofNat 49, OfNat.ofNat 58, OfNat.ofNat 100, OfNat.ofNat 98, OfNat.ofNat 56, OfNat.ofNat 58, OfNat.ofNat 49, OfNat.ofNat 50, OfNat.ofNat 58, OfNat.ofNat 51, OfNat.ofNat 52, OfNat.ofNat 48, OfNat.ofNat 48, OfNat.ofNat 58, OfNat.ofNat 48, OfNat.ofNat 58, OfNat.ofNat 99, OfNat.ofNat 48, OfNat.ofNat 48, OfNat.ofNat 48, OfNat.ofNat 58, OfNat.ofNat 50, OfNat.ofNat 49, OfNat.ofNat 50, OfNat.ofNat 58, OfNat.ofNat 51, OfNat.ofNat 52])).get! 7, (ByteArray.mk (Array.mk [OfNat.ofNat 50, OfNat.ofNat 48, OfNat.ofNat 48, OfNat.ofNat 49, OfNat.ofNat 58, OfNat.ofNat 100, OfNat.ofNat 98, OfNat.ofNat 56, OfNat.ofNat 58, OfNat.ofNat 49, OfNat.ofNat 50, OfNat.ofNat 58, OfNat.ofNat 51, OfNat.ofNat 52, OfNat.ofNat 48, OfNat.ofNat 48, OfNat.ofNat 58, OfNat.ofNat 48, OfNat.ofNat 58, OfNat.ofNat 99, OfNat.ofNat 48, OfNat.ofNat 48, OfNat.ofNat 48, OfNat.ofNat 58, OfNat.ofNat 50, OfNat.ofNat 49, OfNat.ofNat 50, OfNat.ofNat 58, OfNat.ofNat 51, OfNat.ofNat 52])).get! 8, (ByteArray.mk (Array.mk [OfNat.ofNat 50, OfNat.ofNat 48, OfNat.ofNat 48, OfNat.ofNat 49, OfNat.ofNat 58, OfNat.ofNat 100, OfNat.ofNat 98, OfNat.ofNat 56, OfNat.ofNat 58, OfNat.ofNat 49, OfNat.ofNat 50, OfNat.ofNat 58, OfNat.ofNat 51, OfNat.ofNat 52, OfNat.ofNat 48, OfNat.ofNat 48, OfNat.ofNat 58, OfNat.ofNat 48, OfNat.ofNat 58, OfNat.ofNat 99, OfNat.ofNat 48, OfNat.ofNat 48, OfNat.ofNat 48, OfNat.ofNat 58, OfNat.ofNat 50, OfNat.ofNat 49, OfNat.ofNat 50, OfNat.ofNat 58, OfNat.ofNat 51, OfNat.ofNat 52])).get! 9, (ByteArray.mk (Array.mk [OfNat.ofNat 50, OfNat.ofNat 48, OfNat.ofNat 48, OfNat.ofNat 49, OfNat.ofNat 58, OfNat.ofNat 100, OfNat.ofNat 98, OfNat.ofNat 56, OfNat.ofNat 58, OfNat.ofNat 49, OfNat.ofNat 50, OfNat.ofNat 58, OfNat.ofNat 51, OfNat.ofNat 52, OfNat.ofNat 48, OfNat.ofNat 48, OfNat.ofNat 58, OfNat.ofNat 48, OfNat.ofNat 58, OfNat.ofNat 99, OfNat.ofNat 48, OfNat.ofNat 48, OfNat.ofNat 48, OfNat.ofNat 58, OfNat.ofNat 50, OfNat.ofNat 49, OfNat.ofNat 50, OfNat.ofNat 58, OfNat.ofNat 51, OfNat.ofNat 52])).get! 10, (ByteArray.mk (Array.mk [OfNat.ofNat 50, OfNat.ofNat 48, OfNat.ofNat 48, OfNat.ofNat 49, OfNat.ofNat 58, OfNat.ofNat 100, OfNat.ofNat 98, OfNat.ofNat 56, OfNat.ofNat 58, OfNat.ofNat 49, OfNat.ofNat 50, OfNat.ofNat 58, OfNat.ofNat 51, OfNat.ofNat 52, OfNat.ofNat 48, OfNat.ofNat 48, OfNat.ofNat 58, OfNat.ofNat 48, OfNat.ofNat 58, OfNat.ofNat 99, OfNat.ofNat 48, OfNat.ofNat 48, OfNat.ofNat 48, OfNat.ofNat 58, OfNat.ofNat 50, OfNat.ofNat 49, OfNat.ofNat 50, OfNat.ofNat 58, OfNat.ofNat 51, OfNat.ofNat 52])).get! 11, (ByteArray.mk (Array.mk [OfNat.ofNat 50, OfNat.ofNat 48, OfNat.ofNat 48, OfNat.ofNat 49, OfNat.ofNat 58, OfNat.ofNat 100, OfNat.ofNat 98, OfNat.ofNat 56, OfNat.ofNat 58, OfNat.ofNat 49, OfNat.ofNat 50, OfNat.ofNat 58, OfNat.ofNat 51, OfNat.ofNat 52, OfNat.ofNat 48, OfNat.ofNat 48, OfNat.ofNat 58, OfNat.ofNat 48, OfNat.ofNat 58, OfNat.ofNat 99, OfNat.ofNat 48, OfNat.ofNat 48, OfNat.ofNat 48, OfNat.ofNat 58, OfNat.ofNat 50, OfNat.ofNat 49, OfNat.ofNat 50, OfNat.ofNat 58, OfNat.ofNat 51, OfNat.ofNat 52])).get! 12, (ByteArray.mk (Array.mk [OfNat.ofNat 50, OfNat.ofNat 48, OfNat.ofNat 48, OfNat.ofNat 49, OfNat.ofNat 58, OfNat.ofNat 100, OfNat.ofNat 98, OfNat.ofNat 56, OfNat.ofNat 58, OfNat.ofNat 49, OfNat.ofNat 50, OfNat.ofNat 58, OfNat.ofNat 51, OfNat.ofNat 52, OfNat.ofNat 48, OfNat.ofNat 48, OfNat.ofNat 58, OfNat.ofNat 48, OfNat.ofNat 58, OfNat.ofNat 99, OfNat.ofNat 48, OfNat.ofNat 48, OfNat.ofNat 48, OfNat.ofNat 58, OfNat.ofNat 50, OfNat.ofNat 49, OfNat.ofNat 50, OfNat.ofNat 58, OfNat.ofNat 51, OfNat.ofNat 52])).get! 13, (ByteArray.mk (Array.mk [OfNat.ofNat 50, OfNat.ofNat 48, OfNat.ofNat 48, OfNat.ofNat 49, OfNat.ofNat 58, OfNat.ofNat 100, OfNat.ofNat 98, OfNat.ofNat 56, OfNat.ofNat 58, OfNat.ofNat 49, OfNat.ofNat 50, OfNat.ofNat 58, OfNat.ofNat 51, OfNat.ofNat 52, OfNat.ofNat 48, OfNat.ofNat 48, OfNat.ofNat 58, OfNat.ofNat 48, OfNat.ofNat 58, OfNat.ofNat 99, OfNat.ofNat 48, OfNat.ofNat 48, OfNat.ofNat 48, OfNat.ofNat 58, OfNat.ofNat 50, OfNat.ofNat 49, OfNat.ofNat 50, OfNat.ofNat 58, OfNat.ofNat 51, OfNat.ofNat 52])).get! 14, (ByteArray.mk (Array.mk [OfNat.ofNat 50, OfNat.ofNat 48, OfNat.ofNat 48, OfNat.ofNat 49, OfNat.ofNat 58, OfNat.ofNat 100, OfNat.ofNat 98, OfNat.ofNat 56, OfNat.ofNat 58, OfNat.ofNat 49, OfNat.ofNat 50, OfNat.ofNat 58, OfNat.ofNat 51, OfNat.ofNat 52, OfNat.ofNat 48, OfNat.ofNat 48, OfNat.ofNat 58, OfNat.ofNat 48, OfNat.ofNat 58, OfNat.ofNat 99, OfNat.ofNat 48, OfNat.ofNat 48, OfNat.ofNat 48, OfNat.ofNat 58, OfNat.ofNat 50, OfNat.ofNat 49, OfNat.ofNat 50, OfNat.ofNat 58, OfNat.ofNat 51, OfNat.ofNat 52])).get! 15, (ByteArray.mk (Array.mk [OfNat.ofNat 50, OfNat.ofNat 48, OfNat.ofNat 48, OfNat.ofNat 49, OfNat.ofNat 58, OfNat.ofNat 100, OfNat.ofNat 98, OfNat.ofNat 56, OfNat.ofNat 58, OfNat.ofNat 49, OfNat.ofNat 50, OfNat.ofNat 58, OfNat.ofNat 51, OfNat.ofNat 52, OfNat.ofNat 48, OfNat.ofNat 48, OfNat.ofNat 58, OfNat.ofNat 48, OfNat.ofNat 58, OfNat.ofNat 99, OfNat.ofNat 48, OfNat.ofNat 48, OfNat.ofNat 48, OfNat.ofNat 58, OfNat.ofNat 50, OfNat.ofNat 49, OfNat.ofNat 50, OfNat.ofNat 58, OfNat.ofNat 51, OfNat.ofNat 52])).get! 16, (ByteArray.mk (Array.mk [OfNat.ofNat 50, OfNat.ofNat 48, OfNat.ofNat 48, OfNat.ofNat 49, OfNat.ofNat 58, OfNat.ofNat 100, OfNat.ofNat 98, OfNat.ofNat 56, OfNat.ofNat 58, OfNat.ofNat 49, OfNat.ofNat 50, OfNat.ofNat 58, OfNat.ofNat 51, OfNat.ofNat 52, OfNat.ofNat 48, OfNat.ofNat 48, OfNat.ofNat 58, OfNat.ofNat 48, OfNat.ofNat 58, OfNat.ofNat 99, OfNat.ofNat 48, OfNat.ofNat 48, OfNat.ofNat 48, OfNat.ofNat 58, OfNat.ofNat 50, OfNat.ofNat 49, OfNat.ofNat 50, OfNat.ofNat 58, OfNat.ofNat 51, OfNat.ofNat 52])).get! 17, (ByteArray.mk (Array.mk [OfNat.ofNat 50, OfNat.ofNat 48, OfNat.ofNat 48, OfNat.ofNat 49, OfNat.ofNat 58, OfNat.ofNat 100, OfNat.ofNat 98, OfNat.ofNat 56, OfNat.ofNat 58, OfNat.ofNat 49, OfNat.ofNat 50, OfNat.ofNat 58, OfNat.ofNat 51, OfNat.ofNat 52, OfNat.ofNat 48, OfNat.ofNat 48, OfNat.ofNat 58, OfNat.ofNat 48, OfNat.ofNat 58, OfNat.ofNat 99, OfNat.ofNat 48, OfNat.ofNat 48, OfNat.ofNat 48, OfNat.ofNat 58, OfNat.ofNat 50, OfNat.ofNat 49, OfNat.ofNat 50, OfNat.ofNat 58, OfNat.ofNat 51, OfNat.ofNat 52])).get! 18, (ByteArray.mk (Array.mk [OfNat.ofNat 50, OfNat.ofNat 48, OfNat.ofNat 48, OfNat.ofNat 49, OfNat.ofNat 58, OfNat.ofNat 100, OfNat.ofNat 98, OfNat.ofNat 56, OfNat.ofNat 58, OfNat.ofNat 49, OfNat.ofNat 50, OfNat.ofNat 58, OfNat.ofNat 51, OfNat.ofNat 52, OfNat.ofNat 48, OfNat.ofNat 48, OfNat.ofNat 58, OfNat.ofNat 48, OfNat.ofNat 58, OfNat.ofNat 99, OfNat.ofNat 48, OfNat.ofNat 48, OfNat.ofNat 48, OfNat.ofNat 58, OfNat.ofNat 50, OfNat.ofNat 49, OfNat.ofNat 50, OfNat.ofNat 58, OfNat.ofNat 51, OfNat.ofNat 52])).get! 19, (ByteArray.mk (Array.mk [OfNat.ofNat 50, OfNat.ofNat 48, OfNat.ofNat 48, OfNat.ofNat 49, OfNat.ofNat 58, OfNat.ofNat 100, OfNat.ofNat 98, OfNat.ofNat 56, OfNat.ofNat 58, OfNat.ofNat 49, OfNat.ofNat 50, OfNat.ofNat 58, OfNat.ofNat 51, OfNat.ofNat 52, OfNat.ofNat 48, OfNat.ofNat 48, OfNat.ofNat 58, OfNat.ofNat 48, OfNat.ofNat 58, OfNat.ofNat 99, OfNat.ofNat 48, OfNat.ofNat 48, OfNat.ofNat 48, OfNat.ofNat 58, OfNat.ofNat 50, OfNat.ofNat 49, OfNat.ofNat 50, OfNat.ofNat 58, OfNat.ofNat 51, OfNat.ofNat 52])).get! 20, (ByteArray.mk (Array.mk [OfNat.ofNat 50, OfNat.ofNat 48, OfNat.ofNat 48, OfNat.ofNat 49, OfNat.ofNat 58, OfNat.ofNat 100, OfNat.ofNat 98, OfNat.ofNat 56, OfNat.ofNat 58, OfNat.ofNat 49, OfNat.ofNat 50, OfNat.ofNat 58, OfNat.ofNat 51, OfNat.ofNat 52, OfNat.ofNat 48, OfNat.ofNat 48, OfNat.ofNat 58, OfNat.ofNat 48, OfNat.ofNat 58, OfNat.ofNat 99, OfNat.ofNat 48, OfNat.ofNat 48, OfNat.ofNat 48, OfNat.ofNat 58, OfNat.ofNat 50, OfNat.ofNat 49, OfNat.ofNat 50, OfNat.ofNat 58, OfNat.ofNat 51, OfNat.ofNat 52])).get! 21, (ByteArray.mk (Array.mk [OfNat.ofNat 50, OfNat.ofNat 48, OfNat.ofNat 48, OfNat.ofNat 49, OfNat.ofNat 58, OfNat.ofNat 100, OfNat.ofNat 98, OfNat.ofNat 56, OfNat.ofNat 58, OfNat.ofNat 49, OfNat.ofNat 50, OfNat.ofNat 58, OfNat.ofNat 51, OfNat.ofNat 52, OfNat.ofNat 48, OfNat.ofNat 48, OfNat.ofNat 58, OfNat.ofNat 48, OfNat.ofNat 58, OfNat.ofNat 99, OfNat.ofNat 48, OfNat.ofNat 48, OfNat.ofNat 48, OfNat.ofNat 58, OfNat.ofNat 50, OfNat.ofNat 49, OfNat.ofNat 50, OfNat.ofNat 58, OfNat.ofNat 51, OfNat.ofNat 52])).get! 22, (ByteArray.mk (Array.mk [OfNat.ofNat 50, OfNat.ofNat 48, OfNat.ofNat 48, OfNat.ofNat 49, OfNat.ofNat 58, OfNat.ofNat 100, OfNat.ofNat 98, OfNat.ofNat 56, OfNat.ofNat 58, OfNat.ofNat 49, OfNat.ofNat 50, OfNat.ofNat 58, OfNat.ofNat 51, OfNat.ofNat 52, OfNat.ofNat 48, OfNat.ofNat 48, OfNat.ofNat 58, OfNat.ofNat 48, OfNat.ofNat 58, OfNat.ofNat 99, OfNat.ofNat 48, OfNat.ofNat 48, OfNat.ofNat 48, OfNat.ofNat 58, OfNat.ofNat 50, OfNat.ofNat 49, OfNat.ofNat 50, OfNat.ofNat 58, OfNat.ofNat 51, OfNat.ofNat 52])).get! 23, (ByteArray.mk (Array.mk [OfNat.ofNat 50, OfNat.ofNat 48, OfNat.ofNat 48, OfNat.ofNat 49, OfNat.ofNat 58, OfNat.ofNat 100, OfNat.ofNat 98, OfNat.ofNat 56, OfNat.ofNat 58, OfNat.ofNat 49, OfNat.ofNat 50, OfNat.ofNat 58, OfNat.ofNat 51, OfNat.ofNat 52, OfNat.ofNat 48, OfNat.ofNat 48, OfNat.ofNat 58, OfNat.ofNat 48, OfNat.ofNat 58, OfNat.ofNat 99, OfNat.ofNat 48, OfNat.ofNat 48, OfNat.ofNat 48, OfNat.ofNat 58, OfNat.ofNat 50, OfNat.ofNat 49, OfNat.ofNat 50, OfNat.ofNat 58, OfNat.ofNat 51, OfNat.ofNat 52])).get! 24, (ByteArray.mk (Array.mk [OfNat.ofNat 50, OfNat.ofNat 48, OfNat.ofNat 48, OfNat.ofNat 49, OfNat.ofNat 58, OfNat.ofNat 100, OfNat.ofNat 98, OfNat.ofNat 56, OfNat.ofNat 58, OfNat.ofNat 49, OfNat.ofNat 50, OfNat.ofNat 58, OfNat.ofNat 51, OfNat.ofNat 52, OfNat.ofNat 48, OfNat.ofNat 48, OfNat.ofNat 58, OfNat.ofNat 48, OfNat.ofNat 58, OfNat.ofNat 99, OfNat.ofNat 48, OfNat.ofNat 48, OfNat.ofNat 48, OfNat.ofNat 58, OfNat.ofNat 50, OfNat.ofNat 49, OfNat.ofNat 50, OfNat.ofNat 58, OfNat.ofNat 51, OfNat.ofNat 52])).get! 25, (ByteArray.mk (Array.mk [OfNat.ofNat 50, OfNat.ofNat 48, OfNat.ofNat 48, OfNat.ofNat 49, OfNat.ofNat 58, OfNat.ofNat 100, OfNat.ofNat 98, OfNat.ofNat 56, OfNat.ofNat 58, OfNat.ofNat 49, OfNat.ofNat 50, OfNat.ofNat 58, OfNat.ofNat 51, OfNat.ofNat 52, OfNat.ofNat 48, OfNat.ofNat 48, OfNat.ofNat 58, OfNat.ofNat 48, OfNat.ofNat 58, OfNat.ofNat 99, OfNat.ofNat 48, OfNat.ofNat 48, OfNat.ofNat 48, OfNat.ofNat 58, OfNat.ofNat 50, OfNat.ofNat 49, OfNat.ofNat 50, OfNat.ofNat 58, OfNat.ofNat 51, OfNat.ofNat 52])).get! 26, (ByteArray.mk (Array.mk [OfNat.ofNat 50, OfNat.ofNat 48, OfNat.ofNat 48, OfNat.ofNat 49, OfNat.ofNat 58, OfNat.ofNat 100, OfNat.ofNat 98, OfNat.ofNat 56, OfNat.ofNat 58, OfNat.ofNat 49, OfNat.ofNat 50, OfNat.ofNat 58, OfNat.ofNat 51, OfNat.ofNat 52, OfNat.ofNat 48, OfNat.ofNat 48, OfNat.ofNat 58, OfNat.ofNat 48, OfNat.ofNat 58, OfNat.ofNat 99, OfNat.ofNat 48, OfNat.ofNat 48, OfNat.ofNat 48, OfNat.ofNat 58, OfNat.ofNat 50, OfNat.ofNat 49, OfNat.ofNat 50, OfNat.ofNat 58, OfNat.ofNat 51, OfNat.ofNat 52])).get! 27, (ByteArray.mk (Array.mk [OfNat.ofNat 50, OfNat.ofNat 48, OfNat.ofNat 48, OfNat.ofNat 49, OfNat.ofNat 58, OfNat.ofNat 100, OfNat.ofNat 98, OfNat.ofNat 56, OfNat.ofNat 58, OfNat.ofNat 49, OfNat.ofNat 50, OfNat.ofNat 58, OfNat.ofNat 51, OfNat.ofNat 52, OfNat.ofNat 48, OfNat.ofNat 48, OfNat.ofNat 58, OfNat.ofNat 48, OfNat.ofNat 58, OfNat.ofNat 99, OfNat.ofNat 48, OfNat.ofNat 48, OfNat.ofNat 48, OfNat.ofNat 58, OfNat.ofNat 50, OfNat.ofNat 49, OfNat.ofNat 50, OfNat.ofNat 58, OfNat.ofNat 51, OfNat.ofNat 52])).get! 28, (ByteArray.mk (Array.mk [OfNat.ofNat 50, OfNat.ofNat 48, OfNat.ofNat 48, OfNat.ofNat 49, OfNat.ofNat 58, OfNat.ofNat 100, OfNat.ofNat 98, OfNat.ofNat 56, OfNat.ofNat 58, OfNat.ofNat 49, OfNat.ofNat 50, OfNat.ofNat 58, OfNat.ofNat 51, OfNat.ofNat 52, OfNat.ofNat 48, OfNat.ofNat 48, OfNat.ofNat 58, OfNat.ofNat 48, OfNat.ofNat 58, OfNat.ofNat 99, OfNat.ofNat 48, OfNat.ofNat 48, OfNat.ofNat 48, OfNat.ofNat 58, OfNat.ofNat 50, OfNat.ofNat 49, OfNat.ofNat 50, OfNat.ofNat 58, OfNat.ofNat 51, OfNat.ofNat 52])).get! 29]) (aIf ((sel (R10 [AV.agg [AV.int IntKind.u8 32, AV.int IntKind.u8 1, AV.int IntKind.u8 13, AV.int IntKind.u8 184, AV.int IntKind.u8 0, AV.int IntKind.u8 0, AV.int IntKind.u8 0, AV.int IntKind.u8 0, AV.int IntKind.u8 0, AV.int IntKind.u8 0, AV.int IntKind.u8 0, AV.int IntKind.u8 0, AV.int IntKind.u8 0, AV.int IntKind.u8 0, AV.int IntKind.u8 0, AV.int IntKind.u8 0, AV.int IntKind.i64 40, AV.int IntKind.u8 192, AV.int IntKind.u8 0, AV.int IntKind.u8 2, AV.int IntKind.u8 0, AV.int IntKind.i64 24, AV.int IntKind.i64 16, AV.int IntKind.i64 6, AV.bool false], AV.int IntKind.u64 4660]) [0, 7]).toInt == 52) (k (AEnd.ret (AV.bool ((sel (R10 [AV.agg [AV.int IntKind.u8 32, AV.int IntKind.u8 1, AV.int IntKind.u8 13, AV.int IntKind.u8 184, AV.int IntKind.u8 0, AV.int IntKind.u8 0, AV.int IntKind.u8 0, AV.int IntKind.u8 0, AV.int IntKind.u8 0, AV.int IntKind.u8 0, AV.int IntKind.u8 0, AV.int IntKind.u8 0, AV.int IntKind.u8 0, AV.int IntKind.u8 0, AV.int IntKind.u8 0, AV.int IntKind.u8 0, AV.int IntKind.i64 40, AV.int IntKind.u8 192, AV.int IntKind.u8 0, AV.int IntKind.u8 2, AV.int IntKind.u8 0, AV.int IntKind.i64 24, AV.int IntKind.i64 16, AV.int IntKind.i64 6, AV.bool false], AV.int IntKind.u64 4660]) [0, 24]).toInt == 56))) []) (k (AEnd.ret (AV.bool false)) [])) (k (AEnd.ret (AV.bool false)) [])) none) (k (AEnd.ret (AV.bool false)) [])) none := by kernel_rfl
theorem R10_known : R10 [.agg [.int .u8 32, .int .u8 1, .int .u8 13, .int .u8 184, .int .u8 0, .int .u8 0, .int .u8 0, .int .u8 0, .int .u8 0, .int .u8 0, .int .u8 0, .int .u8 0, .int .u8 0, .int .u8 0, .int .u8 0, .int .u8 0, .int .i64 40, .int .u8 192, .int .u8 0, .int .u8 2, .int .u8 0, .int .i64 24, .int .i64 16, .int .i64 6, .bool false], .int .u64 4660] = some (.ret (.tup [.agg [.int .u8 192, .int .u8 0, .int .u8 2, .int .u8 18, .int .i64 32, .int .i64 6, .int .i64 8, .int .u16 52, .int .u8 32, .int .u8 1, .int .u8 13, .int .u8 184, .int .u8 0, .int .u8 18, .int .u8 52, .int .u8 0, .int .u8 0, .int .u8 0, .int .u8 0, .int .u8 0, .int .u8 0, .int .u8 0, .int .u8 0, .int .u8 0, .int .i64 56, .int .u8 32, .int .u8 1, .int .u8 13, .int .u8 184, .int .u8 0, .int .u8 18, .int .u8 52, .int .u8 0, .int .u8 0, .int .u8 0, .int .u8 192, .int .u8 0, .int .u8 2, .int .u8 18, .int .u8 0, .int .u8 52], .int .i64 0]), []) := by
  have e : R10 [.agg [.int .u8 32, .int .u8 1, .int .u8 13, .int .u8 184, .int .u8 0, .int .u8 0, .int .u8 0, .int .u8 0, .int .u8 0, .int .u8 0, .int .u8 0, .int .u8 0, .int .u8 0, .int .u8 0, .int .u8 0, .int .u8 0, .int .i64 40, .int .u8 192, .int .u8 0, .int .u8 2, .int .u8 0, .int .i64 24, .int .i64 16, .int .i64 6, .bool false], .int .u64 4660] = some (.ret (.tup [edgW [.int .u8 32, .int .u8 1, .int .u8 13, .int .u8 184, .int .u8 0, .int .u8 0, .int .u8 0, .int .u8 0, .int .u8 0, .int .u8 0, .int .u8 0, .int .u8 0, .int .u8 0, .int .u8 0, .int .u8 0, .int .u8 0] [.int .u8 192, .int .u8 0, .int .u8 2, .int .u8 0] 40 24 16 6 4660, .int .i64 (edgE [.int .u8 32, .int .u8 1, .int .u8 13, .int .u8 184, .int .u8 0, .int .u8 0, .int .u8 0, .int .u8 0, .int .u8 0, .int .u8 0, .int .u8 0, .int .u8 0, .int .u8 0, .int .u8 0, .int .u8 0, .int .u8 0] [.int .u8 192, .int .u8 0, .int .u8 2, .int .u8 0] 40 24 16 6 4660)]), []) :=
    R10_is (x := fun k => [32, 1, 13, 184, 0, 0, 0, 0, 0, 0, 0, 0, 0, 0, 0, 0].getD k 0) (z := fun k => [192, 0, 2, 0].getD k 0) (n := 40) (m := 24) (e := 16) (o := 6) (f := false) (a := 4660) (b8_list (by decide)) (b8_list (by decide)) rfl (by decide) (by decide)
  have h1 : edgW [.int .u8 32, .int .u8 1, .int .u8 13, .int .u8 184, .int .u8 0, .int .u8 0, .int .u8 0, .int .u8 0, .int .u8 0, .int .u8 0, .int .u8 0, .int .u8 0, .int .u8 0, .int .u8 0, .int .u8 0, .int .u8 0] [.int .u8 192, .int .u8 0, .int .u8 2, .int .u8 0] 40 24 16 6 4660 = .agg [.int .u8 192, .int .u8 0, .int .u8 2, .int .u8 18, .int .i64 32, .int .i64 6, .int .i64 8, .int .u16 52, .int .u8 32, .int .u8 1, .int .u8 13, .int .u8 184, .int .u8 0, .int .u8 18, .int .u8 52, .int .u8 0, .int .u8 0, .int .u8 0, .int .u8 0, .int .u8 0, .int .u8 0, .int .u8 0, .int .u8 0, .int .u8 0, .int .i64 56, .int .u8 32, .int .u8 1, .int .u8 13, .int .u8 184, .int .u8 0, .int .u8 18, .int .u8 52, .int .u8 0, .int .u8 0, .int .u8 0, .int .u8 192, .int .u8 0, .int .u8 2, .int .u8 18, .int .u8 0, .int .u8 52] := by kernel_rfl
  have h2 : edgE [.int .u8 32, .int .u8 1, .int .u8 13, .int .u8 184, .int .u8 0, .int .u8 0, .int .u8 0, .int .u8 0, .int .u8 0, .int .u8 0, .int .u8 0, .int .u8 0, .int .u8 0, .int .u8 0, .int .u8 0, .int .u8 0] [.int .u8 192, .int .u8 0, .int .u8 2, .int .u8 0] 40 24 16 6 4660 = 0 := by kernel_rfl
  rw [e, h1, h2]
theorem B12_is (k : KE) : B12 [] [] k = k (.ret (.bool true)) [] := by
  rw [N12, R10_known]
  kernel_rfl
theorem S12_ok : SpecOK Tryd.prog 12 S12 := constK_ok B12_ok B12_is
theorem En12 : Enters Tryd.prog 12 := ⟨_, Tryd.func12, by decide, rfl⟩

/-- ferryman/addr.same -/
noncomputable def T66 : List (FuncId × FSpec) := []
theorem T66_ok : TabOK Tryd.prog T66 := TabOK.nil _
noncomputable def L66_2 : ATs → AH → KC → Res := fun ts H k => match ts, H with
  | [(0, .fs 1 xs fl), (1, .fs 1 ys gl), (8, .int .i64 n), (9, .int .i64 i)], [] => aIf (intsB .u8 xs && intsB .u8 ys && xs.length == ys.length && decide (xs.length ≤ 1000000) && i == 0 && decide (0 ≤ n) && decide (n ≤ 8 * (xs.length : Int))) (aIf (sameB xs ys n.toNat) (k (.exit 0) [(0, .fs 1 xs fl), (1, .fs 1 ys gl), (8, .int .i64 n), (9, .int .i64 n), (10, .bool false)] []) (k .ret [(6, .bool false)] [])) none
  | _, _ => none
noncomputable def C66 : Ctx := (ctx E T66 [(2, L66_2)] [(0, [0, 1, 2]), (1, [0, 1, 8, 9]), (2, [0, 1, 8, 9, 10]), (3, [0, 1, 7, 8, 9]), (4, [0, 1, 8, 9, 28]), (5, [6]), (6, [0, 1, 8, 9]), (7, [6]), (1000002, [0, 1, 8, 9])] [] 30 70)
theorem C66_ok : CtxOK Tryd.prog C66 := ctx_ok E_ok E_flds mixed T66_ok
theorem C66_l0 : C66.loop (loopId (loopB Tryd.f66 0)) = some L66_2 := by kernel_rfl
theorem L66_2_in : LoopsOK C66 (loopB Tryd.f66 0) := LoopsOK.within 0 (by kernel_rfl) (fun j hj S hS => by
  omega)
theorem M66_2a (xs : List AV) (fl : SF) (ys : List AV) (gl : SF) (n i : Int) (k : KC) : headedK C66 (loopB Tryd.f66 0) [(0, .fs 1 xs fl), (1, .fs 1 ys gl), (8, .int .i64 n), (9, .int .i64 i)] [] k =
  aIf (decide (i < n)) (aIf (decide (0 ≤ IntKind.i64.wrap (i.tdiv 8))) (aIf (decide (IntKind.i64.wrap (i.tdiv 8) < (↑xs.length : Int))) (aIf ((xs.getD (IntKind.i64.wrap (i.tdiv 8)).toNat AV.junk).cells.length == 1) (aIf (([(xs.getD (IntKind.i64.wrap (i.tdiv 8)).toNat AV.junk).cells.getD 0 AV.junk].getD 0 AV.junk).isInt IntKind.u8) (aIf (decide (0 ≤ IntKind.i64.wrap (i.tdiv 8))) (aIf (decide (IntKind.i64.wrap (i.tdiv 8) < (↑ys.length : Int))) (aIf ((ys.getD (IntKind.i64.wrap (i.tdiv 8)).toNat AV.junk).cells.length == 1) (aIf (([(ys.getD (IntKind.i64.wrap (i.tdiv 8)).toNat AV.junk).cells.getD 0 AV.junk].getD 0 AV.junk).isInt IntKind.u8) (aIf (decide (IntKind.i64.wrap (7 - i.tmod 8) < 0)) none (aIf (IntKind.u8.wrap (↑(BitVec.ofInt 8 ((IntKind.u8.wrap (↑(BitVec.ofInt 8 ([(xs.getD (IntKind.i64.wrap (i.tdiv 8)).toNat AV.junk).cells.getD 0 AV.junk].getD 0 AV.junk).toInt ^^^ BitVec.ofInt 8 ([(ys.getD (IntKind.i64.wrap (i.tdiv 8)).toNat AV.junk).cells.getD 0 AV.junk].getD 0 AV.junk).toInt).toNat : Int)).fdiv (2 ^ min (IntKind.i64.wrap (7 - i.tmod 8)).toNat 8)) &&& BitVec.ofInt 8 1).toNat : Int) != 0) (k AExit.ret [(6, AV.bool false)] []) (k AExit.normal [(0, AV.fs 1 xs fl), (1, AV.fs 1 ys gl), (8, AV.int IntKind.i64 n), (9, AV.int IntKind.i64 (IntKind.i64.wrap (i + 1)))] []))) none) none) none) none) none) none) none) none) (k (AExit.exit 0) [(0, AV.fs 1 xs fl), (1, AV.fs 1 ys gl), (8, AV.int IntKind.i64 n), (9, AV.int IntKind.i64 i), (10, AV.bool (decide (i < n)))] []) := by kernel_rfl
theorem L66_2_ok : LoopSum C66 (loopB Tryd.f66 0) L66_2 := LoopSum.of C66_ok L66_2_in (fun ts H => by
  unfold L66_2
  split
  · rename_i xs fl ys gl n i
    rcases Bool.eq_false_or_eq_true (intsB .u8 xs && intsB .u8 ys && xs.length == ys.length && decide (xs.length ≤ 1000000) && i == 0 && decide (0 ≤ n) && decide (n ≤ 8 * (xs.length : Int))) with hp | hp
    · refine .inr ?_
      simp only [aIf_pos hp]
      simp only [Bool.and_eq_true, decide_eq_true_eq, beq_iff_eq] at hp
      obtain ⟨⟨⟨⟨⟨⟨hu, hv⟩, hl⟩, hL⟩, rfl⟩, h0⟩, h1⟩ := hp
      obtain ⟨n, rfl⟩ := Int.eq_ofNat_of_zero_le h0
      have key : ∀ j : Nat, j < n → ∀ k, headedK C66 (loopB Tryd.f66 0) [(0, .fs 1 xs fl), (1, .fs 1 ys gl), (8, .int .i64 (n : Int)), (9, .int .i64 (j : Int))] [] k = aIf (bitV xs j != bitV ys j) (k .ret [(6, .bool false)] []) (k .normal [(0, .fs 1 xs fl), (1, .fs 1 ys gl), (8, .int .i64 (n : Int)), (9, .int .i64 ((j + 1 : Nat) : Int))] []) := by
        intro j hj k
        obtain ⟨x, hx, he⟩ := u8_get hu (j / 8) (by omega)
        obtain ⟨y, hy, hf⟩ := u8_get hv (j / 8) (by omega)
        rw [M66_2a]
        simp only [dlt hj, div8 (show j < 9223372036854775808 by omega), sh7 j, dlt (show j / 8 < xs.length by omega), dlt (show j / 8 < ys.length by omega), show min (7 - j % 8) 8 = 7 - j % 8 by omega, he, hf, xor8 hx hy, bit8 (xor_lt hx hy) (show 7 - j % 8 < 8 by omega), bitXor he hf, i64s (show j + 1 < 9223372036854775808 by omega), Int.toNat_natCast, AV.cells, List.length_cons, List.length_nil, List.getD_cons_zero, Nat.reduceAdd, isInt_self, AV.toInt, beq_self_eq_true, dnn, dnn', aIf_true, aIf_false, shr_eq]
      rw [Int.toNat_natCast]
      exact (iter_scan (N := n) (ts := fun j => [(0, .fs 1 xs fl), (1, .fs 1 ys gl), (8, .int .i64 (n : Int)), (9, .int .i64 (j : Int))]) (H := []) (b := fun j => bitV xs j != bitV ys j) (fun j hj hb k => (key j hj k).trans (aIf_pos hb)) (fun j hj hb k => (key j hj k).trans (aIf_neg hb))
        (fun k => by rw [M66_2a, dltf]; rfl) (by intro h; cases h) (by intro h; cases h) n 0 (by omega)).imp fun m hm k => (hm k).symm
    · exact .inl fun k => by rw [aIf_neg hp]
  · exact .inl fun k => rfl)
theorem C66_loops : ∀ c, Tryd.f66.body = some c → LoopsOK C66 c := LoopsOK.of 1 (by kernel_rfl) (fun j hj S hS => by
  match j, hj with
  | 0, _ => rw [C66_l0] at hS; cases hS; exact L66_2_ok
  | n + 1, hj => omega)
noncomputable def S66 : FSpec := inlineK C66 Tryd.f66
theorem S66_ok : SpecOK Tryd.prog 66 S66 := inlineK_ok C66_ok Tryd.func66 C66_loops
theorem En66 : Enters Tryd.prog 66 := ⟨_, Tryd.func66, by decide, rfl⟩
noncomputable def R66 (args : List AV) : Res := S66 args [] encK
noncomputable def V66 : FSpec := leafK (.bool) R66
theorem V66_ok : SpecOK Tryd.prog 66 V66 := leafK_ok S66_ok (fun _ => rfl)
theorem N66 (xs ys : List AV) (fl gl : SF) (n : Int) : S66 [.fs 1 xs fl, .fs 1 ys gl, .int .i64 n] [] encK =
  aIf (intsB IntKind.u8 xs && intsB IntKind.u8 ys && xs.length == ys.length && decide (xs.length ≤ 1000000) && true && decide (0 ≤ n) && decide (n ≤ 8 * (↑xs.length : Int))) (aIf (Pl.sameB xs ys n.toNat) (some (AEnd.ret (AV.bool true), [])) (some (AEnd.ret (AV.bool false), []))) none := by kernel_rfl
theorem R66_is {xs ys : List AV} {fl gl : SF} {n : Int} (hu : intsB .u8 xs = true) (hv : intsB .u8 ys = true) (hl : xs.length = ys.length) (hL : xs.length ≤ 1000000) (h0 : 0 ≤ n) (h1 : n ≤ 8 * (xs.length : Int)) : R66 [.fs 1 xs fl, .fs 1 ys gl, .int .i64 n] = some (.ret (.bool (sameB xs ys n.toNat)), []) := by
  show S66 _ [] encK = _
  rw [N66, hu, hv, decide_eq_true hL, decide_eq_true h0, decide_eq_true h1, hl]
  simp only [beq_self_eq_true, Bool.and_self, aIf_true]
  cases sameB xs ys n.toNat <;> rfl

/-- ferryman/addr.Has4 -/
noncomputable def T45 : List (FuncId × FSpec) := [(43, V43), (66, V66)]
theorem T45_ok : TabOK Tryd.prog T45 := TabOK.cons En43 V43_ok (TabOK.cons En66 V66_ok (TabOK.nil _))
noncomputable def C45 : Ctx := (ctx E T45 [] [(0, [2, 3]), (1, [2, 3, 6]), (2, [2, 3, 6, 10]), (3, [4, 5]), (4, [4, 5])] [1000066] 18 70)
theorem C45_ok : CtxOK Tryd.prog C45 := ctx_ok E_ok E_flds mixed T45_ok
noncomputable def S45 : FSpec := inlineK C45 Tryd.f45
theorem S45_ok : SpecOK Tryd.prog 45 S45 := inlineK_ok C45_ok Tryd.func45 (fun _ _ => LoopsOK.none _)
theorem En45 : Enters Tryd.prog 45 := ⟨_, Tryd.func45, by decide, rfl⟩
noncomputable def R45 (args : List AV) : Res := S45 args [] encK
noncomputable def V45 : FSpec := leafK (.tup [.bool, .int .i64]) R45
theorem V45_ok : SpecOK Tryd.prog 45 V45 := leafK_ok S45_ok (fun _ => rfl)
theorem N45 (x y : Nat → Int) (n : Int) : S45 [.agg [.int .u8 (x 0), .int .u8 (x 1), .int .u8 (x 2), .int .u8 (x 3), .int .i64 n], .agg [.int .u8 (y 0), .int .u8 (y 1), .int .u8 (y 2), .int .u8 (y 3)]] [] encK =
  aIf (shOK (Sh.int IntKind.i64) (R43 [AV.agg [AV.int IntKind.u8 (x 0), AV.int IntKind.u8 (x 1), AV.int IntKind.u8 (x 2), AV.int IntKind.u8 (x 3), AV.int IntKind.i64 n]])) (aIf ((sel (R43 [AV.agg [AV.int IntKind.u8 (x 0), AV.int IntKind.u8 (x 1), AV.int IntKind.u8 (x 2), AV.int IntKind.u8 (x 3), AV.int IntKind.i64 n]]) []).toInt != 0) (some (AEnd.ret (AV.tup [AV.bool false, AV.int IntKind.i64 (sel (R43 [AV.agg [AV.int IntKind.u8 (x 0), AV.int IntKind.u8 (x 1), AV.int IntKind.u8 (x 2), AV.int IntKind.u8 (x 3), AV.int IntKind.i64 n]]) []).toInt]), [])) (aIf (shOK Sh.bool (R66 [AV.fs 1 [AV.int IntKind.u8 (x 0), AV.int IntKind.u8 (x 1), AV.int IntKind.u8 (x 2), AV.int IntKind.u8 (x 3)] SF.any, AV.fs 1 [AV.int IntKind.u8 (y 0), AV.int IntKind.u8 (y 1), AV.int IntKind.u8 (y 2), AV.int IntKind.u8 (y 3)] SF.any, AV.int IntKind.i64 n])) (some (AEnd.ret (AV.tup [AV.bool (sel (R66 [AV.fs 1 [AV.int IntKind.u8 (x 0), AV.int IntKind.u8 (x 1), AV.int IntKind.u8 (x 2), AV.int IntKind.u8 (x 3)] SF.any, AV.fs 1 [AV.int IntKind.u8 (y 0), AV.int IntKind.u8 (y 1), AV.int IntKind.u8 (y 2), AV.int IntKind.u8 (y 3)] SF.any, AV.int IntKind.i64 n]) []).toBool, AV.int IntKind.i64 0]), [])) none)) none := by kernel_rfl
theorem R45_is {x y : Nat → Int} {n : Int} (hx : b8 x) (hy : b8 y) : R45 [.agg [.int .u8 (x 0), .int .u8 (x 1), .int .u8 (x 2), .int .u8 (x 3), .int .i64 n], .agg [.int .u8 (y 0), .int .u8 (y 1), .int .u8 (y 2), .int .u8 (y 3)]] = some (.ret (.tup [.bool (inB 32 [.int .u8 (x 0), .int .u8 (x 1), .int .u8 (x 2), .int .u8 (x 3)] [.int .u8 (y 0), .int .u8 (y 1), .int .u8 (y 2), .int .u8 (y 3)] n), .int .i64 (chkE 32 [.int .u8 (x 0), .int .u8 (x 1), .int .u8 (x 2), .int .u8 (x 3)] n)]), []) := by
  show S45 _ [] encK = _
  have ti : ∀ k n, (AV.int k n).toInt = n := fun _ _ => rfl
  have tb : ∀ b, (AV.bool b).toBool = b := fun _ => rfl
  have si : ∀ k n, sel (some (AEnd.ret (AV.int k n), [])) [] = .int k n := fun _ _ => rfl
  have sb : ∀ b, sel (some (AEnd.ret (AV.bool b), [])) [] = .bool b := fun _ => rfl
  rw [N45]
  simp only [R43_is hx, shOK_ret, has_int, chkE_in, si, ti, aIf_true]
  unfold inB
  rcases chkE_or 32 [.int .u8 (x 0), .int .u8 (x 1), .int .u8 (x 2), .int .u8 (x 3)] n with ⟨h1, h2, h3, h4⟩ | h1
  · have e := R66_is (fl := .any) (gl := .any) (n := n) (b8_4 hx) (b8_4 hy) rfl (show 4 ≤ 1000000 by decide) h2 (show n ≤ 8 * ((4 : Nat) : Int) by omega)
    rw [h1, e, shOK_ret, has_bool, sb, tb]
    rfl
  · rw [h1]
    rfl

/-- ferryman/portset.Check -/
noncomputable def T67 : List (FuncId × FSpec) := []
theorem T67_ok : TabOK Tryd.prog T67 := TabOK.nil _
noncomputable def C67 : Ctx := (ctx E T67 [] [(0, [1]), (1, [33]), (2, [2]), (3, [2])] [] 34 70)
theorem C67_ok : CtxOK Tryd.prog C67 := ctx_ok E_ok E_flds mixed T67_ok
noncomputable def B67 : FSpec := inlineK C67 Tryd.f67
noncomputable def S67 : FSpec := fun args H k => match args, H with
  | [.agg [.int .i64 a, .int .i64 b, .int .u16 x]], [] => aIf (psetB a b x) (aIf (right a b x) (k (.ret (.int .i64 0)) []) (k (.ret (.int .i64 90)) [])) none
  | _, _ => none
theorem B67_ok : SpecOK Tryd.prog 67 B67 := inlineK_ok C67_ok Tryd.func67 (fun _ _ => LoopsOK.none _)
theorem N67 (a b x : Int) (k : KE) : B67 [.agg [.int .i64 a, .int .i64 b, .int .u16 x]] [] k =
    aIf (decide (a < 0)) (k (AEnd.ret (AV.int IntKind.i64 90)) [])
    (aIf (decide (a > 15)) (k (AEnd.ret (AV.int IntKind.i64 90)) [])
      (aIf (decide (b < 0)) (k (AEnd.ret (AV.int IntKind.i64 90)) [])
        (aIf (decide (b > IntKind.i64.wrap (16 - a))) (k (AEnd.ret (AV.int IntKind.i64 90)) [])
          (aIf (decide (IntKind.u64.wrap b < 0)) none
            (aIf ((IntKind.u32.wrap x).fdiv (2 ^ min (IntKind.u64.wrap b).toNat 32) != 0)
              (k (AEnd.ret (AV.int IntKind.i64 90)) []) (k (AEnd.ret (AV.int IntKind.i64 0)) [])))))) := by kernel_rfl
theorem S67_ok : SpecOK Tryd.prog 67 S67 := by
  refine B67_ok.turn fun args H => ?_
  unfold S67
  split
  · rename_i a b x
    rcases Bool.eq_false_or_eq_true (psetB a b x) with hp | hp
    · refine .inr fun k => ?_
      rw [aIf_pos hp, N67]
      exact check_law hp _ _
    · exact .inl fun k => by rw [aIf_neg hp]
  · exact .inl fun k => rfl
theorem En67 : Enters Tryd.prog 67 := ⟨_, Tryd.func67, by decide, rfl⟩

/-- ferryman/portset.low -/
noncomputable def T68 : List (FuncId × FSpec) := []
theorem T68_ok : TabOK Tryd.prog T68 := TabOK.nil _
noncomputable def C68 : Ctx := (ctx E T68 [] [(0, [1]), (1, [2])] [] 9 70)
theorem C68_ok : CtxOK Tryd.prog C68 := ctx_ok E_ok E_flds mixed T68_ok
noncomputable def S68 : FSpec := inlineK C68 Tryd.f68
theorem S68_ok : SpecOK Tryd.prog 68 S68 := inlineK_ok C68_ok Tryd.func68 (fun _ _ => LoopsOK.none _)
theorem En68 : Enters Tryd.prog 68 := ⟨_, Tryd.func68, by decide, rfl⟩
end Go.Proofs.YtlfhkoajmjfbpaaDoor
