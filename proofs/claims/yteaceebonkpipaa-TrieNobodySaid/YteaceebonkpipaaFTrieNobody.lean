import Derived.Test.YteaceebonkpipaaA20
import Derived.Test.YteaceebonkpipaaRows
import Derived.Test.YteaceebonkpipaaPBits
import Derived.Test.YteaceebonkpipaaPAddr
import Derived.Test.YteaceebonkpipaaPTrieArg
namespace Go.Proofs.Yteaceebonkpipaa
open Go.Abs Go.Pl

set_option maxRecDepth 10000 in
noncomputable def E : Env :=
  Env.mk [none, some (TI.mk (TypeDesc.func (Array.mk []) (Array.mk []) false) 1 8 [AV.nilf] true false [CK.other]), some (TI.mk (TypeDesc.int IntKind.i64) 1 8 [AV.int IntKind.i64 0] true true [CK.int IntKind.i64]), some (TI.mk (TypeDesc.int IntKind.i64) 1 8 [AV.int IntKind.i64 0] true true [CK.int IntKind.i64]), some (TI.mk TypeDesc.bool 1 1 [AV.bool false] true true [CK.bool]), some (TI.mk (TypeDesc.int IntKind.u8) 1 1 [AV.int IntKind.u8 0] true true [CK.int IntKind.u8]), some (TI.mk (TypeDesc.int IntKind.u8) 1 1 [AV.int IntKind.u8 0] true true [CK.int IntKind.u8]), some (TI.mk (TypeDesc.struct (Array.mk [Field.mk "x" 2 0 false "" "runtime" 0, Field.mk "y" 3 1 false "" "runtime" 8, Field.mk "signed" 4 2 false "" "runtime" 16, Field.mk "code" 6 3 false "" "runtime" 17])) 4 24 [AV.int IntKind.i64 0, AV.int IntKind.i64 0, AV.bool false, AV.int IntKind.u8 0] true true [CK.int IntKind.i64, CK.int IntKind.i64, CK.bool, CK.int IntKind.u8]), some (TI.mk (TypeDesc.struct (Array.mk [Field.mk "x" 2 0 false "" "runtime" 0, Field.mk "y" 3 1 false "" "runtime" 8, Field.mk "signed" 4 2 false "" "runtime" 16, Field.mk "code" 6 3 false "" "runtime" 17])) 4 24 [AV.int IntKind.i64 0, AV.int IntKind.i64 0, AV.bool false, AV.int IntKind.u8 0] true true [CK.int IntKind.i64, CK.int IntKind.i64, CK.bool, CK.int IntKind.u8]), some (TI.mk TypeDesc.string 1 16 [AV.str (ByteArray.mk (Array.mk []))] true true [CK.str]), some (TI.mk TypeDesc.string 1 16 [AV.str (ByteArray.mk (Array.mk []))] true true [CK.str]), some (TI.mk TypeDesc.string 1 16 [AV.str (ByteArray.mk (Array.mk []))] true true [CK.str]), some (TI.mk (TypeDesc.int IntKind.u64) 1 8 [AV.int IntKind.u64 0] true true [CK.int IntKind.u64]), some (TI.mk (TypeDesc.struct (Array.mk [Field.mk "msg" 9 0 false "" "runtime" 0, Field.mk "addr" 12 1 false "" "runtime" 16])) 2 24 [AV.str (ByteArray.mk (Array.mk [])), AV.int IntKind.u64 0] false true [CK.str, CK.int IntKind.u64]), some (TI.mk (TypeDesc.struct (Array.mk [Field.mk "msg" 9 0 false "" "runtime" 0, Field.mk "addr" 12 1 false "" "runtime" 16])) 2 24 [AV.str (ByteArray.mk (Array.mk [])), AV.int IntKind.u64 0] false true [CK.str, CK.int IntKind.u64]), some (TI.mk (TypeDesc.pointer 125) 1 8 [AV.nilp] true true [CK.other]), some (TI.mk (TypeDesc.pointer 128) 1 8 [AV.nilp] true true [CK.other]), some (TI.mk (TypeDesc.pointer 137) 1 8 [AV.nilp] true true [CK.other]), some (TI.mk (TypeDesc.struct (Array.mk [Field.mk "typ" 17 0 false "" "internal/runtime/maps" 0])) 1 8 [AV.nilp] false true [CK.other]), some (TI.mk (TypeDesc.struct (Array.mk [Field.mk "typ" 17 0 false "" "internal/runtime/maps" 0])) 1 8 [AV.nilp] false true [CK.other]), some (TI.mk (TypeDesc.interface (Array.mk [])) 1 16 [AV.nili] true true [CK.other]), some (TI.mk (TypeDesc.int IntKind.i32) 1 4 [AV.int IntKind.i32 0] true true [CK.int IntKind.i32]), some (TI.mk (TypeDesc.slice 41) 1 24 [AV.fs 44 [] SF.nil] true false [CK.slice 44]), some (TI.mk (TypeDesc.pointer 78) 1 8 [AV.nilp] true true [CK.other]), some (TI.mk (TypeDesc.int IntKind.i64) 1 8 [AV.int IntKind.i64 0] true true [CK.int IntKind.i64]), none, some (TI.mk (TypeDesc.func (Array.mk [3]) (Array.mk [23, 24]) false) 1 8 [AV.nilf] true false [CK.other]), some (TI.mk (TypeDesc.pointer 63) 1 8 [AV.nilp] true true [CK.other]), none, some (TI.mk (TypeDesc.func (Array.mk [3]) (Array.mk [27, 24]) false) 1 8 [AV.nilf] true false [CK.other]), some (TI.mk (TypeDesc.func (Array.mk []) (Array.mk [4]) false) 1 8 [AV.nilf] true false [CK.other]), some (TI.mk (TypeDesc.func (Array.mk [23, 27, 41]) (Array.mk [4]) false) 1 8 [AV.nilf] true false [CK.other]), some (TI.mk (TypeDesc.array 4 5) 4 4 [AV.int IntKind.u8 0, AV.int IntKind.u8 0, AV.int IntKind.u8 0, AV.int IntKind.u8 0] true true [CK.int IntKind.u8, CK.int IntKind.u8, CK.int IntKind.u8, CK.int IntKind.u8]), some (TI.mk (TypeDesc.array 4 5) 4 4 [AV.int IntKind.u8 0, AV.int IntKind.u8 0, AV.int IntKind.u8 0, AV.int IntKind.u8 0] true true [CK.int IntKind.u8, CK.int IntKind.u8, CK.int IntKind.u8, CK.int IntKind.u8]), some (TI.mk (TypeDesc.struct (Array.mk [Field.mk "Addr" 33 0 false "" "" 0, Field.mk "Len" 3 4 false "" "" 8])) 5 16 [AV.int IntKind.u8 0, AV.int IntKind.u8 0, AV.int IntKind.u8 0, AV.int IntKind.u8 0, AV.int IntKind.i64 0] true true [CK.int IntKind.u8, CK.int IntKind.u8, CK.int IntKind.u8, CK.int IntKind.u8, CK.int IntKind.i64]), some (TI.mk (TypeDesc.struct (Array.mk [Field.mk "Addr" 33 0 false "" "" 0, Field.mk "Len" 3 4 false "" "" 8])) 5 16 [AV.int IntKind.u8 0, AV.int IntKind.u8 0, AV.int IntKind.u8 0, AV.int IntKind.u8 0, AV.int IntKind.i64 0] true true [CK.int IntKind.u8, CK.int IntKind.u8, CK.int IntKind.u8, CK.int IntKind.u8, CK.int IntKind.i64]), some (TI.mk (TypeDesc.array 16 5) 16 16 [AV.int IntKind.u8 0, AV.int IntKind.u8 0, AV.int IntKind.u8 0, AV.int IntKind.u8 0, AV.int IntKind.u8 0, AV.int IntKind.u8 0, AV.int IntKind.u8 0, AV.int IntKind.u8 0, AV.int IntKind.u8 0, AV.int IntKind.u8 0, AV.int IntKind.u8 0, AV.int IntKind.u8 0, AV.int IntKind.u8 0, AV.int IntKind.u8 0, AV.int IntKind.u8 0, AV.int IntKind.u8 0] true true [CK.int IntKind.u8, CK.int IntKind.u8, CK.int IntKind.u8, CK.int IntKind.u8, CK.int IntKind.u8, CK.int IntKind.u8, CK.int IntKind.u8, CK.int IntKind.u8, CK.int IntKind.u8, CK.int IntKind.u8, CK.int IntKind.u8, CK.int IntKind.u8, CK.int IntKind.u8, CK.int IntKind.u8, CK.int IntKind.u8, CK.int IntKind.u8]), some (TI.mk (TypeDesc.array 16 5) 16 16 [AV.int IntKind.u8 0, AV.int IntKind.u8 0, AV.int IntKind.u8 0, AV.int IntKind.u8 0, AV.int IntKind.u8 0, AV.int IntKind.u8 0, AV.int IntKind.u8 0, AV.int IntKind.u8 0, AV.int IntKind.u8 0, AV.int IntKind.u8 0, AV.int IntKind.u8 0, AV.int IntKind.u8 0, AV.int IntKind.u8 0, AV.int IntKind.u8 0, AV.int IntKind.u8 0, AV.int IntKind.u8 0] true true [CK.int IntKind.u8, CK.int IntKind.u8, CK.int IntKind.u8, CK.int IntKind.u8, CK.int IntKind.u8, CK.int IntKind.u8, CK.int IntKind.u8, CK.int IntKind.u8, CK.int IntKind.u8, CK.int IntKind.u8, CK.int IntKind.u8, CK.int IntKind.u8, CK.int IntKind.u8, CK.int IntKind.u8, CK.int IntKind.u8, CK.int IntKind.u8]), some (TI.mk (TypeDesc.struct (Array.mk [Field.mk "Addr" 37 0 false "" "" 0, Field.mk "Len" 3 16 false "" "" 16])) 17 24 [AV.int IntKind.u8 0, AV.int IntKind.u8 0, AV.int IntKind.u8 0, AV.int IntKind.u8 0, AV.int IntKind.u8 0, AV.int IntKind.u8 0, AV.int IntKind.u8 0, AV.int IntKind.u8 0, AV.int IntKind.u8 0, AV.int IntKind.u8 0, AV.int IntKind.u8 0, AV.int IntKind.u8 0, AV.int IntKind.u8 0, AV.int IntKind.u8 0, AV.int IntKind.u8 0, AV.int IntKind.u8 0, AV.int IntKind.i64 0] true true [CK.int IntKind.u8, CK.int IntKind.u8, CK.int IntKind.u8, CK.int IntKind.u8, CK.int IntKind.u8, CK.int IntKind.u8, CK.int IntKind.u8, CK.int IntKind.u8, CK.int IntKind.u8, CK.int IntKind.u8, CK.int IntKind.u8, CK.int IntKind.u8, CK.int IntKind.u8, CK.int IntKind.u8, CK.int IntKind.u8, CK.int IntKind.u8, CK.int IntKind.i64]), some (TI.mk (TypeDesc.struct (Array.mk [Field.mk "Addr" 37 0 false "" "" 0, Field.mk "Len" 3 16 false "" "" 16])) 17 24 [AV.int IntKind.u8 0, AV.int IntKind.u8 0, AV.int IntKind.u8 0, AV.int IntKind.u8 0, AV.int IntKind.u8 0, AV.int IntKind.u8 0, AV.int IntKind.u8 0, AV.int IntKind.u8 0, AV.int IntKind.u8 0, AV.int IntKind.u8 0, AV.int IntKind.u8 0, AV.int IntKind.u8 0, AV.int IntKind.u8 0, AV.int IntKind.u8 0, AV.int IntKind.u8 0, AV.int IntKind.u8 0, AV.int IntKind.i64 0] true true [CK.int IntKind.u8, CK.int IntKind.u8, CK.int IntKind.u8, CK.int IntKind.u8, CK.int IntKind.u8, CK.int IntKind.u8, CK.int IntKind.u8, CK.int IntKind.u8, CK.int IntKind.u8, CK.int IntKind.u8, CK.int IntKind.u8, CK.int IntKind.u8, CK.int IntKind.u8, CK.int IntKind.u8, CK.int IntKind.u8, CK.int IntKind.u8, CK.int IntKind.i64]), some (TI.mk (TypeDesc.struct (Array.mk [Field.mk "Kind" 3 0 false "" "" 0, Field.mk "P" 35 1 false "" "" 8, Field.mk "Q" 39 6 false "" "" 24, Field.mk "A" 33 23 false "" "" 48, Field.mk "B" 37 27 false "" "" 52, Field.mk "Value" 3 43 false "" "" 72])) 44 80 [AV.int IntKind.i64 0, AV.int IntKind.u8 0, AV.int IntKind.u8 0, AV.int IntKind.u8 0, AV.int IntKind.u8 0, AV.int IntKind.i64 0, AV.int IntKind.u8 0, AV.int IntKind.u8 0, AV.int IntKind.u8 0, AV.int IntKind.u8 0, AV.int IntKind.u8 0, AV.int IntKind.u8 0, AV.int IntKind.u8 0, AV.int IntKind.u8 0, AV.int IntKind.u8 0, AV.int IntKind.u8 0, AV.int IntKind.u8 0, AV.int IntKind.u8 0, AV.int IntKind.u8 0, AV.int IntKind.u8 0, AV.int IntKind.u8 0, AV.int IntKind.u8 0, AV.int IntKind.i64 0, AV.int IntKind.u8 0, AV.int IntKind.u8 0, AV.int IntKind.u8 0, AV.int IntKind.u8 0, AV.int IntKind.u8 0, AV.int IntKind.u8 0, AV.int IntKind.u8 0, AV.int IntKind.u8 0, AV.int IntKind.u8 0, AV.int IntKind.u8 0, AV.int IntKind.u8 0, AV.int IntKind.u8 0, AV.int IntKind.u8 0, AV.int IntKind.u8 0, AV.int IntKind.u8 0, AV.int IntKind.u8 0, AV.int IntKind.u8 0, AV.int IntKind.u8 0, AV.int IntKind.u8 0, AV.int IntKind.u8 0, AV.int IntKind.i64 0] true true [CK.int IntKind.i64, CK.int IntKind.u8, CK.int IntKind.u8, CK.int IntKind.u8, CK.int IntKind.u8, CK.int IntKind.i64, CK.int IntKind.u8, CK.int IntKind.u8, CK.int IntKind.u8, CK.int IntKind.u8, CK.int IntKind.u8, CK.int IntKind.u8, CK.int IntKind.u8, CK.int IntKind.u8, CK.int IntKind.u8, CK.int IntKind.u8, CK.int IntKind.u8, CK.int IntKind.u8, CK.int IntKind.u8, CK.int IntKind.u8, CK.int IntKind.u8, CK.int IntKind.u8, CK.int IntKind.i64, CK.int IntKind.u8, CK.int IntKind.u8, CK.int IntKind.u8, CK.int IntKind.u8, CK.int IntKind.u8, CK.int IntKind.u8, CK.int IntKind.u8, CK.int IntKind.u8, CK.int IntKind.u8, CK.int IntKind.u8, CK.int IntKind.u8, CK.int IntKind.u8, CK.int IntKind.u8, CK.int IntKind.u8, CK.int IntKind.u8, CK.int IntKind.u8, CK.int IntKind.u8, CK.int IntKind.u8, CK.int IntKind.u8, CK.int IntKind.u8, CK.int IntKind.i64]), some (TI.mk (TypeDesc.struct (Array.mk [Field.mk "Kind" 3 0 false "" "" 0, Field.mk "P" 35 1 false "" "" 8, Field.mk "Q" 39 6 false "" "" 24, Field.mk "A" 33 23 false "" "" 48, Field.mk "B" 37 27 false "" "" 52, Field.mk "Value" 3 43 false "" "" 72])) 44 80 [AV.int IntKind.i64 0, AV.int IntKind.u8 0, AV.int IntKind.u8 0, AV.int IntKind.u8 0, AV.int IntKind.u8 0, AV.int IntKind.i64 0, AV.int IntKind.u8 0, AV.int IntKind.u8 0, AV.int IntKind.u8 0, AV.int IntKind.u8 0, AV.int IntKind.u8 0, AV.int IntKind.u8 0, AV.int IntKind.u8 0, AV.int IntKind.u8 0, AV.int IntKind.u8 0, AV.int IntKind.u8 0, AV.int IntKind.u8 0, AV.int IntKind.u8 0, AV.int IntKind.u8 0, AV.int IntKind.u8 0, AV.int IntKind.u8 0, AV.int IntKind.u8 0, AV.int IntKind.i64 0, AV.int IntKind.u8 0, AV.int IntKind.u8 0, AV.int IntKind.u8 0, AV.int IntKind.u8 0, AV.int IntKind.u8 0, AV.int IntKind.u8 0, AV.int IntKind.u8 0, AV.int IntKind.u8 0, AV.int IntKind.u8 0, AV.int IntKind.u8 0, AV.int IntKind.u8 0, AV.int IntKind.u8 0, AV.int IntKind.u8 0, AV.int IntKind.u8 0, AV.int IntKind.u8 0, AV.int IntKind.u8 0, AV.int IntKind.u8 0, AV.int IntKind.u8 0, AV.int IntKind.u8 0, AV.int IntKind.u8 0, AV.int IntKind.i64 0] true true [CK.int IntKind.i64, CK.int IntKind.u8, CK.int IntKind.u8, CK.int IntKind.u8, CK.int IntKind.u8, CK.int IntKind.i64, CK.int IntKind.u8, CK.int IntKind.u8, CK.int IntKind.u8, CK.int IntKind.u8, CK.int IntKind.u8, CK.int IntKind.u8, CK.int IntKind.u8, CK.int IntKind.u8, CK.int IntKind.u8, CK.int IntKind.u8, CK.int IntKind.u8, CK.int IntKind.u8, CK.int IntKind.u8, CK.int IntKind.u8, CK.int IntKind.u8, CK.int IntKind.u8, CK.int IntKind.i64, CK.int IntKind.u8, CK.int IntKind.u8, CK.int IntKind.u8, CK.int IntKind.u8, CK.int IntKind.u8, CK.int IntKind.u8, CK.int IntKind.u8, CK.int IntKind.u8, CK.int IntKind.u8, CK.int IntKind.u8, CK.int IntKind.u8, CK.int IntKind.u8, CK.int IntKind.u8, CK.int IntKind.u8, CK.int IntKind.u8, CK.int IntKind.u8, CK.int IntKind.u8, CK.int IntKind.u8, CK.int IntKind.u8, CK.int IntKind.u8, CK.int IntKind.i64]), some (TI.mk (TypeDesc.func (Array.mk [23, 27]) (Array.mk [4]) false) 1 8 [AV.nilf] true false [CK.other]), some (TI.mk (TypeDesc.func (Array.mk [3, 22]) (Array.mk [4]) false) 1 8 [AV.nilf] true false [CK.other]), none, some (TI.mk (TypeDesc.func (Array.mk [3, 22]) (Array.mk [23, 27, 4]) false) 1 8 [AV.nilf] true false [CK.other]), some (TI.mk (TypeDesc.struct (Array.mk [Field.mk "Prefix" 35 0 false "" "" 0, Field.mk "Value" 3 5 false "" "" 16])) 6 24 [AV.int IntKind.u8 0, AV.int IntKind.u8 0, AV.int IntKind.u8 0, AV.int IntKind.u8 0, AV.int IntKind.i64 0, AV.int IntKind.i64 0] true true [CK.int IntKind.u8, CK.int IntKind.u8, CK.int IntKind.u8, CK.int IntKind.u8, CK.int IntKind.i64, CK.int IntKind.i64]), some (TI.mk (TypeDesc.struct (Array.mk [Field.mk "Prefix" 35 0 false "" "" 0, Field.mk "Value" 3 5 false "" "" 16])) 6 24 [AV.int IntKind.u8 0, AV.int IntKind.u8 0, AV.int IntKind.u8 0, AV.int IntKind.u8 0, AV.int IntKind.i64 0, AV.int IntKind.i64 0] true true [CK.int IntKind.u8, CK.int IntKind.u8, CK.int IntKind.u8, CK.int IntKind.u8, CK.int IntKind.i64, CK.int IntKind.i64]), none, some (TI.mk (TypeDesc.func (Array.mk [33]) (Array.mk [47, 4]) false) 1 8 [AV.nilf] true false [CK.other]), some (TI.mk (TypeDesc.struct (Array.mk [Field.mk "Prefix" 39 0 false "" "" 0, Field.mk "Value" 3 17 false "" "" 24])) 18 32 [AV.int IntKind.u8 0, AV.int IntKind.u8 0, AV.int IntKind.u8 0, AV.int IntKind.u8 0, AV.int IntKind.u8 0, AV.int IntKind.u8 0, AV.int IntKind.u8 0, AV.int IntKind.u8 0, AV.int IntKind.u8 0, AV.int IntKind.u8 0, AV.int IntKind.u8 0, AV.int IntKind.u8 0, AV.int IntKind.u8 0, AV.int IntKind.u8 0, AV.int IntKind.u8 0, AV.int IntKind.u8 0, AV.int IntKind.i64 0, AV.int IntKind.i64 0] true true [CK.int IntKind.u8, CK.int IntKind.u8, CK.int IntKind.u8, CK.int IntKind.u8, CK.int IntKind.u8, CK.int IntKind.u8, CK.int IntKind.u8, CK.int IntKind.u8, CK.int IntKind.u8, CK.int IntKind.u8, CK.int IntKind.u8, CK.int IntKind.u8, CK.int IntKind.u8, CK.int IntKind.u8, CK.int IntKind.u8, CK.int IntKind.u8, CK.int IntKind.i64, CK.int IntKind.i64]), some (TI.mk (TypeDesc.struct (Array.mk [Field.mk "Prefix" 39 0 false "" "" 0, Field.mk "Value" 3 17 false "" "" 24])) 18 32 [AV.int IntKind.u8 0, AV.int IntKind.u8 0, AV.int IntKind.u8 0, AV.int IntKind.u8 0, AV.int IntKind.u8 0, AV.int IntKind.u8 0, AV.int IntKind.u8 0, AV.int IntKind.u8 0, AV.int IntKind.u8 0, AV.int IntKind.u8 0, AV.int IntKind.u8 0, AV.int IntKind.u8 0, AV.int IntKind.u8 0, AV.int IntKind.u8 0, AV.int IntKind.u8 0, AV.int IntKind.u8 0, AV.int IntKind.i64 0, AV.int IntKind.i64 0] true true [CK.int IntKind.u8, CK.int IntKind.u8, CK.int IntKind.u8, CK.int IntKind.u8, CK.int IntKind.u8, CK.int IntKind.u8, CK.int IntKind.u8, CK.int IntKind.u8, CK.int IntKind.u8, CK.int IntKind.u8, CK.int IntKind.u8, CK.int IntKind.u8, CK.int IntKind.u8, CK.int IntKind.u8, CK.int IntKind.u8, CK.int IntKind.u8, CK.int IntKind.i64, CK.int IntKind.i64]), none, some (TI.mk (TypeDesc.func (Array.mk [37]) (Array.mk [51, 4]) false) 1 8 [AV.nilf] true false [CK.other]), some (TI.mk (TypeDesc.slice 47) 1 24 [AV.fs 6 [] SF.nil] true false [CK.slice 6]), some (TI.mk (TypeDesc.func (Array.mk []) (Array.mk [54]) false) 1 8 [AV.nilf] true false [CK.other]), some (TI.mk (TypeDesc.slice 51) 1 24 [AV.fs 18 [] SF.nil] true false [CK.slice 18]), some (TI.mk (TypeDesc.func (Array.mk []) (Array.mk [56]) false) 1 8 [AV.nilf] true false [CK.other]), none, some (TI.mk (TypeDesc.func (Array.mk [35, 33]) (Array.mk [4, 24]) false) 1 8 [AV.nilf] true false [CK.other]), some (TI.mk (TypeDesc.func (Array.mk [39, 37]) (Array.mk [4, 24]) false) 1 8 [AV.nilf] true false [CK.other]), some (TI.mk (TypeDesc.func (Array.mk [3, 22, 33, 37]) (Array.mk [4]) false) 1 8 [AV.nilf] true false [CK.other]), some (TI.mk (TypeDesc.struct (Array.mk [Field.mk "Limit" 3 0 false "" "" 0, Field.mk "L4" 54 1 false "" "" 8, Field.mk "L6" 56 2 false "" "" 32])) 3 56 [AV.int IntKind.i64 0, AV.fs 6 [] SF.nil, AV.fs 18 [] SF.nil] true false [CK.int IntKind.i64, CK.slice 6, CK.slice 18]), some (TI.mk (TypeDesc.struct (Array.mk [Field.mk "Limit" 3 0 false "" "" 0, Field.mk "L4" 54 1 false "" "" 8, Field.mk "L6" 56 2 false "" "" 32])) 3 56 [AV.int IntKind.i64 0, AV.fs 6 [] SF.nil, AV.fs 18 [] SF.nil] true false [CK.int IntKind.i64, CK.slice 6, CK.slice 18]), some (TI.mk (TypeDesc.func (Array.mk [35, 3]) (Array.mk [4, 24]) false) 1 8 [AV.nilf] true false [CK.other]), some (TI.mk (TypeDesc.func (Array.mk [39, 3]) (Array.mk [4, 24]) false) 1 8 [AV.nilf] true false [CK.other]), some (TI.mk (TypeDesc.func (Array.mk [22, 33, 37]) (Array.mk [4]) false) 1 8 [AV.nilf] true false [CK.other]), some (TI.mk (TypeDesc.func (Array.mk [35]) (Array.mk [24]) false) 1 8 [AV.nilf] true false [CK.other]), none, some (TI.mk (TypeDesc.func (Array.mk [35]) (Array.mk [3, 4, 24]) false) 1 8 [AV.nilf] true false [CK.other]), some (TI.mk (TypeDesc.func (Array.mk [39]) (Array.mk [24]) false) 1 8 [AV.nilf] true false [CK.other]), some (TI.mk (TypeDesc.func (Array.mk [39]) (Array.mk [3, 4, 24]) false) 1 8 [AV.nilf] true false [CK.other]), some (TI.mk (TypeDesc.func (Array.mk [3, 22, 35, 39, 3]) (Array.mk [4]) false) 1 8 [AV.nilf] true false [CK.other]), some (TI.mk (TypeDesc.interface (Array.mk [("ferryman/trie.depth", 82)])) 1 16 [AV.nili] false true [CK.other]), some (TI.mk (TypeDesc.interface (Array.mk [("ferryman/trie.depth", 82)])) 1 16 [AV.nili] false true [CK.other]), some (TI.mk (TypeDesc.struct (Array.mk [Field.mk "root" 74 0 false "" "ferryman/trie" 0])) 1 16 [AV.nili] false true [CK.other]), some (TI.mk (TypeDesc.struct (Array.mk [Field.mk "root" 74 0 false "" "ferryman/trie" 0])) 1 16 [AV.nili] false true [CK.other]), some (TI.mk (TypeDesc.struct (Array.mk [Field.mk "made" 4 0 false "" "ferryman/trie" 0, Field.mk "limit" 3 1 false "" "ferryman/trie" 8, Field.mk "count" 3 2 false "" "ferryman/trie" 16, Field.mk "four" 76 3 false "" "ferryman/trie" 24, Field.mk "six" 76 4 false "" "ferryman/trie" 40])) 5 56 [AV.bool false, AV.int IntKind.i64 0, AV.int IntKind.i64 0, AV.nili, AV.nili] false true [CK.bool, CK.int IntKind.i64, CK.int IntKind.i64, CK.other, CK.other]), some (TI.mk (TypeDesc.struct (Array.mk [Field.mk "made" 4 0 false "" "ferryman/trie" 0, Field.mk "limit" 3 1 false "" "ferryman/trie" 8, Field.mk "count" 3 2 false "" "ferryman/trie" 16, Field.mk "four" 76 3 false "" "ferryman/trie" 24, Field.mk "six" 76 4 false "" "ferryman/trie" 40])) 5 56 [AV.bool false, AV.int IntKind.i64 0, AV.int IntKind.i64 0, AV.nili, AV.nili] false true [CK.bool, CK.int IntKind.i64, CK.int IntKind.i64, CK.other, CK.other]), some (TI.mk (TypeDesc.slice 23) 1 24 [AV.fs 1 [] SF.nil] true false [CK.slice 1]), none, some (TI.mk (TypeDesc.func (Array.mk [35]) (Array.mk [54, 24]) false) 1 8 [AV.nilf] true false [CK.other]), some (TI.mk (TypeDesc.func (Array.mk []) (Array.mk [3]) false) 1 8 [AV.nilf] true false [CK.other]), some (TI.mk (TypeDesc.func (Array.mk [41]) (Array.mk [4]) false) 1 8 [AV.nilf] true false [CK.other]), some (TI.mk (TypeDesc.func (Array.mk [54, 54]) (Array.mk [4]) false) 1 8 [AV.nilf] true false [CK.other]), some (TI.mk (TypeDesc.func (Array.mk [56, 56]) (Array.mk [4]) false) 1 8 [AV.nilf] true false [CK.other]), some (TI.mk (TypeDesc.func (Array.mk [87, 3, 90]) (Array.mk []) false) 1 8 [AV.nilf] true false [CK.other]), some (TI.mk (TypeDesc.slice 5) 1 24 [AV.fs 1 [] SF.nil] true false [CK.slice 1]), none, some (TI.mk (TypeDesc.func (Array.mk [33, 3]) (Array.mk [35, 24]) false) 1 8 [AV.nilf] true false [CK.other]), some (TI.mk (TypeDesc.func (Array.mk [3, 3]) (Array.mk []) false) 1 8 [AV.nilf] true false [CK.other]), none, some (TI.mk (TypeDesc.func (Array.mk [37, 3]) (Array.mk [39, 24]) false) 1 8 [AV.nilf] true false [CK.other]), some (TI.mk (TypeDesc.func (Array.mk [74, 87, 3, 94]) (Array.mk []) false) 1 8 [AV.nilf] true false [CK.other]), some (TI.mk (TypeDesc.func (Array.mk [87, 3, 3]) (Array.mk []) false) 1 8 [AV.nilf] true false [CK.other]), some (TI.mk (TypeDesc.func (Array.mk [24]) (Array.mk [24]) false) 1 8 [AV.nilf] true false [CK.other]), some (TI.mk (TypeDesc.func (Array.mk [97, 87, 3, 3]) (Array.mk [4, 24]) false) 1 8 [AV.nilf] true false [CK.other]), some (TI.mk (TypeDesc.pointer 76) 1 8 [AV.nilp] true true [CK.other]), some (TI.mk (TypeDesc.func (Array.mk [97, 87, 3]) (Array.mk [24]) false) 1 8 [AV.nilf] true false [CK.other]), none, some (TI.mk (TypeDesc.func (Array.mk [87, 3]) (Array.mk [3, 4]) false) 1 8 [AV.nilf] true false [CK.other]), some (TI.mk (TypeDesc.func (Array.mk [35, 35]) (Array.mk [4, 24]) false) 1 8 [AV.nilf] true false [CK.other]), some (TI.mk (TypeDesc.func (Array.mk [35, 35]) (Array.mk [4]) false) 1 8 [AV.nilf] true false [CK.other]), some (TI.mk (TypeDesc.func (Array.mk [39, 39]) (Array.mk [4]) false) 1 8 [AV.nilf] true false [CK.other]), some (TI.mk (TypeDesc.pointer 107) 1 8 [AV.nilp] true true [CK.other]), none, some (TI.mk (TypeDesc.struct (Array.mk [Field.mk "key" 87 0 false "" "ferryman/trie" 0, Field.mk "n" 3 1 false "" "ferryman/trie" 24, Field.mk "value" 3 2 false "" "ferryman/trie" 32])) 3 40 [AV.fs 1 [] SF.nil, AV.int IntKind.i64 0, AV.int IntKind.i64 0] true false [CK.slice 1, CK.int IntKind.i64, CK.int IntKind.i64]), some (TI.mk (TypeDesc.struct (Array.mk [Field.mk "key" 87 0 false "" "ferryman/trie" 0, Field.mk "n" 3 1 false "" "ferryman/trie" 24, Field.mk "value" 3 2 false "" "ferryman/trie" 32])) 3 40 [AV.fs 1 [] SF.nil, AV.int IntKind.i64 0, AV.int IntKind.i64 0] true false [CK.slice 1, CK.int IntKind.i64, CK.int IntKind.i64]), some (TI.mk (TypeDesc.func (Array.mk [87, 87, 3]) (Array.mk [4]) false) 1 8 [AV.nilf] true false [CK.other]), some (TI.mk (TypeDesc.pointer 112) 1 8 [AV.nilp] true true [CK.other]), some (TI.mk (TypeDesc.array 2 74) 2 32 [AV.nili, AV.nili] false true [CK.other, CK.other]), some (TI.mk (TypeDesc.struct (Array.mk [Field.mk "at" 3 0 false "" "ferryman/trie" 0, Field.mk "kids" 110 1 false "" "ferryman/trie" 8, Field.mk "set" 4 3 false "" "ferryman/trie" 40, Field.mk "value" 3 4 false "" "ferryman/trie" 48])) 5 56 [AV.int IntKind.i64 0, AV.nili, AV.nili, AV.bool false, AV.int IntKind.i64 0] false true [CK.int IntKind.i64, CK.other, CK.other, CK.bool, CK.int IntKind.i64]), some (TI.mk (TypeDesc.struct (Array.mk [Field.mk "at" 3 0 false "" "ferryman/trie" 0, Field.mk "kids" 110 1 false "" "ferryman/trie" 8, Field.mk "set" 4 3 false "" "ferryman/trie" 40, Field.mk "value" 3 4 false "" "ferryman/trie" 48])) 5 56 [AV.int IntKind.i64 0, AV.nili, AV.nili, AV.bool false, AV.int IntKind.i64 0] false true [CK.int IntKind.i64, CK.other, CK.other, CK.bool, CK.int IntKind.i64]), some (TI.mk (TypeDesc.func (Array.mk [87, 3]) (Array.mk [3]) false) 1 8 [AV.nilf] true false [CK.other]), some (TI.mk (TypeDesc.func (Array.mk [87, 3]) (Array.mk []) false) 1 8 [AV.nilf] true false [CK.other]), some (TI.mk (TypeDesc.func (Array.mk [33, 3]) (Array.mk [4]) false) 1 8 [AV.nilf] true false [CK.other]), some (TI.mk (TypeDesc.func (Array.mk [37, 3]) (Array.mk [4]) false) 1 8 [AV.nilf] true false [CK.other]), some (TI.mk (TypeDesc.func (Array.mk [87, 3]) (Array.mk [4]) false) 1 8 [AV.nilf] true false [CK.other]), none, some (TI.mk (TypeDesc.func (Array.mk [74, 3, 104]) (Array.mk [74, 4]) false) 1 8 [AV.nilf] true false [CK.other]), some (TI.mk (TypeDesc.func (Array.mk [74, 3, 87, 3]) (Array.mk [74, 4]) false) 1 8 [AV.nilf] true false [CK.other]), some (TI.mk (TypeDesc.func (Array.mk [104]) (Array.mk []) false) 1 8 [AV.nilf] true false [CK.other]), none, some (TI.mk (TypeDesc.func (Array.mk []) (Array.mk [9]) false) 1 8 [AV.nilf] true false [CK.other]), some (TI.mk (TypeDesc.struct (Array.mk [Field.mk "_interface" 17 0 false "" "runtime" 0, Field.mk "concrete" 17 1 false "" "runtime" 8, Field.mk "asserted" 17 2 false "" "runtime" 16, Field.mk "missingMethod" 9 3 false "" "runtime" 24])) 4 40 [AV.nilp, AV.nilp, AV.nilp, AV.str (ByteArray.mk (Array.mk []))] false true [CK.other, CK.other, CK.other, CK.str]), some (TI.mk (TypeDesc.struct (Array.mk [Field.mk "_interface" 17 0 false "" "runtime" 0, Field.mk "concrete" 17 1 false "" "runtime" 8, Field.mk "asserted" 17 2 false "" "runtime" 16, Field.mk "missingMethod" 9 3 false "" "runtime" 24])) 4 40 [AV.nilp, AV.nilp, AV.nilp, AV.str (ByteArray.mk (Array.mk []))] false true [CK.other, CK.other, CK.other, CK.str]), some (TI.mk (TypeDesc.array 0 16) 0 0 [] true true []), some (TI.mk (TypeDesc.struct (Array.mk [Field.mk "_" 126 0 false "" "runtime" 0])) 0 0 [] false true []), some (TI.mk (TypeDesc.struct (Array.mk [Field.mk "_" 126 0 false "" "runtime" 0])) 0 0 [] false true []), some (TI.mk (TypeDesc.int IntKind.u32) 1 4 [AV.int IntKind.u32 0] true true [CK.int IntKind.u32]), some (TI.mk (TypeDesc.int IntKind.u8) 1 1 [AV.int IntKind.u8 0] true true [CK.int IntKind.u8]), some (TI.mk (TypeDesc.int IntKind.u8) 1 1 [AV.int IntKind.u8 0] true true [CK.int IntKind.u8]), some (TI.mk (TypeDesc.func (Array.mk [138, 138]) (Array.mk [4]) false) 1 8 [AV.nilf] true false [CK.other]), some (TI.mk (TypeDesc.pointer 5) 1 8 [AV.nilp] true true [CK.other]), some (TI.mk (TypeDesc.int IntKind.i32) 1 4 [AV.int IntKind.i32 0] true true [CK.int IntKind.i32]), some (TI.mk (TypeDesc.int IntKind.i32) 1 4 [AV.int IntKind.i32 0] true true [CK.int IntKind.i32]), some (TI.mk (TypeDesc.struct (Array.mk [Field.mk "Size_" 12 0 false "" "" 0, Field.mk "PtrBytes" 12 1 false "" "" 8, Field.mk "Hash" 129 2 false "" "" 16, Field.mk "TFlag" 130 3 false "" "" 20, Field.mk "Align_" 5 4 false "" "" 21, Field.mk "FieldAlign_" 5 5 false "" "" 22, Field.mk "Kind_" 131 6 false "" "" 23, Field.mk "Equal" 132 7 false "" "" 24, Field.mk "GCData" 133 8 false "" "" 32, Field.mk "Str" 134 9 false "" "" 40, Field.mk "PtrToThis" 135 10 false "" "" 44])) 11 48 [AV.int IntKind.u64 0, AV.int IntKind.u64 0, AV.int IntKind.u32 0, AV.int IntKind.u8 0, AV.int IntKind.u8 0, AV.int IntKind.u8 0, AV.int IntKind.u8 0, AV.nilf, AV.nilp, AV.int IntKind.i32 0, AV.int IntKind.i32 0] false false [CK.int IntKind.u64, CK.int IntKind.u64, CK.int IntKind.u32, CK.int IntKind.u8, CK.int IntKind.u8, CK.int IntKind.u8, CK.int IntKind.u8, CK.other, CK.other, CK.int IntKind.i32, CK.int IntKind.i32]), some (TI.mk (TypeDesc.struct (Array.mk [Field.mk "Size_" 12 0 false "" "" 0, Field.mk "PtrBytes" 12 1 false "" "" 8, Field.mk "Hash" 129 2 false "" "" 16, Field.mk "TFlag" 130 3 false "" "" 20, Field.mk "Align_" 5 4 false "" "" 21, Field.mk "FieldAlign_" 5 5 false "" "" 22, Field.mk "Kind_" 131 6 false "" "" 23, Field.mk "Equal" 132 7 false "" "" 24, Field.mk "GCData" 133 8 false "" "" 32, Field.mk "Str" 134 9 false "" "" 40, Field.mk "PtrToThis" 135 10 false "" "" 44])) 11 48 [AV.int IntKind.u64 0, AV.int IntKind.u64 0, AV.int IntKind.u32 0, AV.int IntKind.u8 0, AV.int IntKind.u8 0, AV.int IntKind.u8 0, AV.int IntKind.u8 0, AV.nilf, AV.nilp, AV.int IntKind.i32 0, AV.int IntKind.i32 0] false false [CK.int IntKind.u64, CK.int IntKind.u64, CK.int IntKind.u32, CK.int IntKind.u8, CK.int IntKind.u8, CK.int IntKind.u8, CK.int IntKind.u8, CK.other, CK.other, CK.int IntKind.i32, CK.int IntKind.i32]), some (TI.mk TypeDesc.unsafePointer 1 8 [AV.nilp] true true [CK.other])]
theorem E_ok : EnvOK Try.prog E := (show E = envOf Try.prog by kernel_rfl) ▸ envOf_ok _
theorem E_flds : FieldsOK E := fieldsB_ok (by kernel_rfl)
theorem mixed : Try.prog.follows .mixedOrders = true := by kernel_rfl
/-- ferryman/trie.New -/
noncomputable def T8 : List (FuncId × FSpec) := []
theorem T8_ok : TabOK Try.prog T8 := TabOK.nil _
noncomputable def C8 : Ctx := (ctx E T8 [] [(0, [0]), (1, [0, 9]), (2, [2, 3]), (3, [2, 3])] [] 13 70)
theorem C8_ok : CtxOK Try.prog C8 := ctx_ok E_ok E_flds mixed T8_ok
noncomputable def S8 : FSpec := liveK C8 Try.f8
theorem S8_ok : SpecOK Try.prog 8 S8 := liveK_ok C8_ok Try.func8 (fun _ _ => LoopsOK.none _)
theorem En8 : Enters Try.prog 8 := ⟨_, Try.func8, by decide, rfl⟩

/-- (*ferryman/trie.Table).is -/
noncomputable def T42 : List (FuncId × FSpec) := []
theorem T42_ok : TabOK Try.prog T42 := TabOK.nil _
noncomputable def C42 : Ctx := (ctx E T42 [] [(0, [0]), (1, [2])] [] 11 70)
theorem C42_ok : CtxOK Try.prog C42 := ctx_ok E_ok E_flds mixed T42_ok
noncomputable def S42 : FSpec := inlineK C42 Try.f42
theorem S42_ok : SpecOK Try.prog 42 S42 := inlineK_ok C42_ok Try.func42 (fun _ _ => LoopsOK.none _)
theorem En42 : Enters Try.prog 42 := ⟨_, Try.func42, by decide, rfl⟩

/-- ferryman/trie.bit -/
noncomputable def T66 : List (FuncId × FSpec) := []
theorem T66_ok : TabOK Try.prog T66 := TabOK.nil _
noncomputable def C66 : Ctx := (ctx E T66 [] [(0, [0, 1]), (1, [4])] [] 16 70)
theorem C66_ok : CtxOK Try.prog C66 := ctx_ok E_ok E_flds mixed T66_ok
noncomputable def S66 : FSpec := inlineK C66 Try.f66
theorem S66_ok : SpecOK Try.prog 66 S66 := inlineK_ok C66_ok Try.func66 (fun _ _ => LoopsOK.none _)
theorem En66 : Enters Try.prog 66 := ⟨_, Try.func66, by decide, rfl⟩

/-- ferryman/trie.same -/
noncomputable def T65 : List (FuncId × FSpec) := [(66, S66)]
theorem T65_ok : TabOK Try.prog T65 := TabOK.cons En66 S66_ok (TabOK.nil _)
noncomputable def C65 : Ctx := (ctx E T65 [] [(0, [0, 1, 2]), (1, [0, 1, 8, 9]), (2, [0, 1, 8, 9, 10]), (3, [0, 1, 7, 8, 9]), (4, [0, 1, 8, 9, 18]), (5, [6]), (6, [0, 1, 8, 9]), (7, [6]), (1000002, [0, 1, 8, 9])] [] 20 70)
theorem C65_ok : CtxOK Try.prog C65 := ctx_ok E_ok E_flds mixed T65_ok
noncomputable def S65 : FSpec := inlineK C65 Try.f65
theorem S65_ok : SpecOK Try.prog 65 S65 := inlineK_ok C65_ok Try.func65 (fun _ _ => LoopsOK.none _)
theorem En65 : Enters Try.prog 65 := ⟨_, Try.func65, by decide, rfl⟩

/-- ferryman/addr.cleared -/
noncomputable def T67 : List (FuncId × FSpec) := []
theorem T67_ok : TabOK Try.prog T67 := TabOK.nil _
noncomputable def C67 : Ctx := (ctx E T67 [] [(0, [0, 4]), (1, [0, 4, 10]), (2, [0, 4]), (3, [0, 4]), (1000001, [0, 4])] [] 24 70)
theorem C67_ok : CtxOK Try.prog C67 := ctx_ok E_ok E_flds mixed T67_ok
noncomputable def S67 : FSpec := inlineK C67 Try.f67
theorem S67_ok : SpecOK Try.prog 67 S67 := inlineK_ok C67_ok Try.func67 (fun _ _ => LoopsOK.none _)
theorem En67 : Enters Try.prog 67 := ⟨_, Try.func67, by decide, rfl⟩

/-- ferryman/addr.Cut4 -/
noncomputable def T45 : List (FuncId × FSpec) := [(67, S67)]
theorem T45_ok : TabOK Try.prog T45 := TabOK.cons En67 S67_ok (TabOK.nil _)
noncomputable def C45 : Ctx := (ctx E T45 [] [(0, [1, 2, 4]), (1, [1, 2, 4, 11]), (2, [4, 5]), (3, [1, 2, 4]), (4, [4, 5])] [] 19 70)
theorem C45_ok : CtxOK Try.prog C45 := ctx_ok E_ok E_flds mixed T45_ok
noncomputable def S45 : FSpec := inlineK C45 Try.f45
theorem S45_ok : SpecOK Try.prog 45 S45 := inlineK_ok C45_ok Try.func45 (fun _ _ => LoopsOK.none _)
theorem En45 : Enters Try.prog 45 := ⟨_, Try.func45, by decide, rfl⟩

/-- (*ferryman/trie.Table).Best4$1 -/
noncomputable def T44 : List (FuncId × FSpec) := [(45, S45)]
theorem T44_ok : TabOK Try.prog T44 := TabOK.cons En45 S45_ok (TabOK.nil _)
noncomputable def C44 : Ctx := (ctx E T44 [] [(0, [1, 3, 4, 7]), (1, [])] [] 18 70)
theorem C44_ok : CtxOK Try.prog C44 := ctx_ok E_ok E_flds mixed T44_ok
noncomputable def S44 : FSpec := inlineK C44 Try.f44
theorem S44_ok : SpecOK Try.prog 44 S44 := inlineK_ok C44_ok Try.func44 (fun _ _ => LoopsOK.none _)
theorem En44 : Enters Try.prog 44 := ⟨_, Try.func44, by decide, rfl⟩

/-- ferryman/addr.Cut6 -/
noncomputable def T47 : List (FuncId × FSpec) := [(67, S67)]
theorem T47_ok : TabOK Try.prog T47 := TabOK.cons En67 S67_ok (TabOK.nil _)
noncomputable def C47 : Ctx := (ctx E T47 [] [(0, [1, 2, 4]), (1, [1, 2, 4, 11]), (2, [4, 5]), (3, [1, 2, 4]), (4, [4, 5])] [] 19 70)
theorem C47_ok : CtxOK Try.prog C47 := ctx_ok E_ok E_flds mixed T47_ok
noncomputable def S47 : FSpec := inlineK C47 Try.f47
theorem S47_ok : SpecOK Try.prog 47 S47 := inlineK_ok C47_ok Try.func47 (fun _ _ => LoopsOK.none _)
theorem En47 : Enters Try.prog 47 := ⟨_, Try.func47, by decide, rfl⟩

/-- (*ferryman/trie.Table).Best6$1 -/
noncomputable def T46 : List (FuncId × FSpec) := [(47, S47)]
theorem T46_ok : TabOK Try.prog T46 := TabOK.cons En47 S47_ok (TabOK.nil _)
noncomputable def C46 : Ctx := (ctx E T46 [] [(0, [1, 3, 4, 7]), (1, [])] [] 18 70)
theorem C46_ok : CtxOK Try.prog C46 := ctx_ok E_ok E_flds mixed T46_ok
noncomputable def S46 : FSpec := inlineK C46 Try.f46
theorem S46_ok : SpecOK Try.prog 46 S46 := inlineK_ok C46_ok Try.func46 (fun _ _ => LoopsOK.none _)
theorem En46 : Enters Try.prog 46 := ⟨_, Try.func46, by decide, rfl⟩

/-- (*ferryman/trie.tree).get$1 -/
noncomputable def T73 : List (FuncId × FSpec) := []
theorem T73_ok : TabOK Try.prog T73 := TabOK.nil _
noncomputable def C73 : Ctx := (ctx E T73 [] [(0, [1, 3, 4, 9]), (1, [])] [] 11 70)
theorem C73_ok : CtxOK Try.prog C73 := ctx_ok E_ok E_flds mixed T73_ok
noncomputable def S73 : FSpec := inlineK C73 Try.f73
theorem S73_ok : SpecOK Try.prog 73 S73 := inlineK_ok C73_ok Try.func73 (fun _ _ => LoopsOK.none _)
theorem En73 : Enters Try.prog 73 := ⟨_, Try.func73, by decide, rfl⟩

/-- (*ferryman/trie.tree).path -/
noncomputable def T43 : List (FuncId × FSpec) := [(65, S65), (66, S66), (44, S44), (46, S46), (73, S73)]
theorem T43_ok : TabOK Try.prog T43 := TabOK.cons En65 S65_ok (TabOK.cons En66 S66_ok (TabOK.cons En44 S44_ok (TabOK.cons En46 S46_ok (TabOK.cons En73 S73_ok (TabOK.nil _)))))
noncomputable def C43 : Ctx := (ctx E T43 [] [(0, [1, 2, 3, 8]), (1, [1, 2, 3, 8, 9]), (2, [1, 2, 3, 8, 9, 18]), (3, [1, 2, 3, 8, 9]), (4, [1, 2, 3, 8, 9, 10, 11]), (5, [1, 2, 3, 8, 9, 10, 26]), (6, [3, 10, 44]), (7, []), (8, [1, 2, 3, 9, 12]), (9, [1, 2, 3, 9, 12, 60]), (10, [1, 2, 3, 9, 12]), (11, [1, 2, 3, 9, 12, 70]), (12, [1, 2, 3, 8, 9]), (1000002, [1, 2, 3, 8, 9])] [] 79 70)
theorem C43_ok : CtxOK Try.prog C43 := ctx_ok E_ok E_flds mixed T43_ok
noncomputable def S43 : FSpec := inlineK C43 Try.f43
theorem S43_ok : SpecOK Try.prog 43 S43 := inlineK_ok C43_ok Try.func43 (fun _ _ => LoopsOK.none _)
theorem En43 : Enters Try.prog 43 := ⟨_, Try.func43, by decide, rfl⟩

/-- (*ferryman/trie.Table).Best4 -/
noncomputable def T14 : List (FuncId × FSpec) := [(42, S42), (43, S43), (44, S44)]
theorem T14_ok : TabOK Try.prog T14 := TabOK.cons En42 S42_ok (TabOK.cons En43 S43_ok (TabOK.cons En44 S44_ok (TabOK.nil _)))
noncomputable def C14 : Ctx := (ctx E T14 [] [(0, [0, 3, 4]), (1, [0, 3, 4, 6]), (2, [0, 3, 4, 6, 7]), (3, [0, 3, 4, 6, 7, 9]), (4, [4, 6, 7]), (5, [4, 5])] [] 18 70)
theorem C14_ok : CtxOK Try.prog C14 := ctx_ok E_ok E_flds mixed T14_ok
noncomputable def S14 : FSpec := inlineK C14 Try.f14
theorem S14_ok : SpecOK Try.prog 14 S14 := inlineK_ok C14_ok Try.func14 (fun _ _ => LoopsOK.none _)
theorem En14 : Enters Try.prog 14 := ⟨_, Try.func14, by decide, rfl⟩

/-- (*ferryman/trie.Table).ask -/
noncomputable def T55 : List (FuncId × FSpec) := [(42, S42)]
theorem T55_ok : TabOK Try.prog T55 := TabOK.cons En42 S42_ok (TabOK.nil _)
noncomputable def C55 : Ctx := (ctx E T55 [] [(0, [0, 1]), (1, [1, 7]), (2, [4]), (3, [4])] [] 9 70)
theorem C55_ok : CtxOK Try.prog C55 := ctx_ok E_ok E_flds mixed T55_ok
noncomputable def S55 : FSpec := inlineK C55 Try.f55
theorem S55_ok : SpecOK Try.prog 55 S55 := inlineK_ok C55_ok Try.func55 (fun _ _ => LoopsOK.none _)
theorem En55 : Enters Try.prog 55 := ⟨_, Try.func55, by decide, rfl⟩

/-- ferryman/addr.low -/
noncomputable def T70 : List (FuncId × FSpec) := []
theorem T70_ok : TabOK Try.prog T70 := TabOK.nil _
noncomputable def L70_2 : ATs → AH → KC → Res := fun ts H k => match ts, H with
  | [(0, .fs 1 xs fl), (5, .int .i64 i)], [] => aIf (intsB .u8 xs && decide (xs.length ≤ 1000000) && decide (0 ≤ i) && decide (i ≤ 8 * (xs.length : Int))) (aIf (lowB xs i.toNat) (k (.exit 0) [(0, .fs 1 xs fl), (5, .int .i64 ((8 * xs.length : Nat) : Int)), (11, .bool false)] []) (k .ret [(4, .bool false)] [])) none
  | _, _ => none
noncomputable def C70 : Ctx := (ctx E T70 [(2, L70_2)] [(0, [0, 1]), (1, [0, 5]), (2, [0, 5, 11]), (3, [0, 5]), (4, [0, 5, 24]), (5, [4]), (6, [4]), (1000002, [0, 5])] [] 25 70)
theorem C70_ok : CtxOK Try.prog C70 := ctx_ok E_ok E_flds mixed T70_ok
theorem C70_l0 : C70.loop (loopId (loopB Try.f70 0)) = some L70_2 := by kernel_rfl
theorem L70_2_in : LoopsOK C70 (loopB Try.f70 0) := LoopsOK.within 0 (by kernel_rfl) (fun j hj S hS => by
  omega)
theorem M70_2a (xs : List AV) (fl : SF) (i : Int) (k : KC) : headedK C70 (loopB Try.f70 0) [(0, .fs 1 xs fl), (5, .int .i64 i)] [] k =
  aIf (decide (i < IntKind.i64.wrap (8 * (↑xs.length : Int)))) (aIf (decide (0 ≤ IntKind.i64.wrap (i.tdiv 8))) (aIf (decide (IntKind.i64.wrap (i.tdiv 8) < (↑xs.length : Int))) (aIf ((xs.getD (IntKind.i64.wrap (i.tdiv 8)).toNat AV.junk).cells.length == 1) (aIf (([(xs.getD (IntKind.i64.wrap (i.tdiv 8)).toNat AV.junk).cells.getD 0 AV.junk].getD 0 AV.junk).isInt IntKind.u8) (aIf (decide (IntKind.i64.wrap (7 - i.tmod 8) < 0)) none (aIf (IntKind.u8.wrap (↑(BitVec.ofInt 8 (([(xs.getD (IntKind.i64.wrap (i.tdiv 8)).toNat AV.junk).cells.getD 0 AV.junk].getD 0 AV.junk).toInt.fdiv (2 ^ min (IntKind.i64.wrap (7 - i.tmod 8)).toNat 8)) &&& BitVec.ofInt 8 1).toNat : Int) != 0) (k AExit.ret [(4, AV.bool false)] []) (k AExit.normal [(0, AV.fs 1 xs fl), (5, AV.int IntKind.i64 (IntKind.i64.wrap (i + 1)))] []))) none) none) none) none) (k (AExit.exit 0) [(0, AV.fs 1 xs fl), (5, AV.int IntKind.i64 i), (11, AV.bool (decide (i < IntKind.i64.wrap (8 * (↑xs.length : Int)))))] []) := by kernel_rfl
theorem L70_2_ok : LoopSum C70 (loopB Try.f70 0) L70_2 := LoopSum.of C70_ok L70_2_in (fun ts H => by
  unfold L70_2
  split
  · rename_i xs fl i
    rcases Bool.eq_false_or_eq_true (intsB .u8 xs && decide (xs.length ≤ 1000000) && decide (0 ≤ i) && decide (i ≤ 8 * (xs.length : Int))) with hp | hp
    · refine .inr ?_
      simp only [aIf_pos hp]
      simp only [Bool.and_eq_true, decide_eq_true_eq] at hp
      obtain ⟨⟨⟨hu, hL⟩, h0⟩, h1⟩ := hp
      obtain ⟨i, rfl⟩ := Int.eq_ofNat_of_zero_le h0
      have key : ∀ j : Nat, j < 8 * xs.length → ∀ k, headedK C70 (loopB Try.f70 0) [(0, .fs 1 xs fl), (5, .int .i64 (j : Int))] [] k = aIf (bitV xs j == 1) (k .ret [(4, .bool false)] []) (k .normal [(0, .fs 1 xs fl), (5, .int .i64 ((j + 1 : Nat) : Int))] []) := by
        intro j hj k
        obtain ⟨x, hx, he⟩ := u8_get hu (j / 8) (by omega)
        rw [M70_2a]
        simp only [wrap8 hL, dlt hj, div8 (show j < 9223372036854775808 by omega), sh7 j, dlt (show j / 8 < xs.length by omega), show min (7 - j % 8) 8 = 7 - j % 8 by omega, bit8 hx (show 7 - j % 8 < 8 by omega), bitNe he, he, i64s (show j + 1 < 9223372036854775808 by omega), Int.toNat_natCast, Nat.zero_add, Nat.mul_one, Int.one_mul, AV.cells, List.length_cons, List.length_nil, List.getD_cons_zero, Nat.reduceAdd, isInt_self, AV.toInt, beq_self_eq_true, dnn, dnn', aIf_true, aIf_false, shr_eq]
      rw [Int.toNat_natCast]
      exact (iter_scan (N := 8 * xs.length) (ts := fun j => [(0, .fs 1 xs fl), (5, .int .i64 (j : Int))]) (H := []) (b := fun j => bitV xs j == 1) (fun j hj hb k => (key j hj k).trans (aIf_pos hb)) (fun j hj hb k => (key j hj k).trans (aIf_neg hb))
        (fun k => by rw [M70_2a, wrap8 hL, dltf]; rfl) (by intro h; cases h) (by intro h; cases h) (8 * xs.length - i) i (by omega)).imp fun m hm k => (hm k).symm
    · exact .inl fun k => by rw [aIf_neg hp]
  · exact .inl fun k => rfl)
theorem C70_loops : ∀ c, Try.f70.body = some c → LoopsOK C70 c := LoopsOK.of 1 (by kernel_rfl) (fun j hj S hS => by
  match j, hj with
  | 0, _ => rw [C70_l0] at hS; cases hS; exact L70_2_ok
  | n + 1, hj => omega)
noncomputable def S70 : FSpec := inlineK C70 Try.f70
theorem S70_ok : SpecOK Try.prog 70 S70 := inlineK_ok C70_ok Try.func70 C70_loops
theorem En70 : Enters Try.prog 70 := ⟨_, Try.func70, by decide, rfl⟩
noncomputable def R70 (args : List AV) : Res := S70 args [] encK
noncomputable def V70 : FSpec := leafK (.bool) R70
theorem V70_ok : SpecOK Try.prog 70 V70 := leafK_ok S70_ok (fun _ => rfl)
theorem N70 (xs : List AV) (fl : SF) (i : Int) : S70 [.fs 1 xs fl, .int .i64 i] [] encK =
  aIf (intsB IntKind.u8 xs && decide (xs.length ≤ 1000000) && decide (0 ≤ i) && decide (i ≤ 8 * (↑xs.length : Int))) (aIf (Pl.lowB xs i.toNat) (some (AEnd.ret (AV.bool true), [])) (some (AEnd.ret (AV.bool false), []))) none := by kernel_rfl
theorem R70_is {xs : List AV} {fl : SF} {i : Int} (hu : intsB .u8 xs = true) (hL : xs.length ≤ 1000000) (h0 : 0 ≤ i) (h1 : i ≤ 8 * (xs.length : Int)) : R70 [.fs 1 xs fl, .int .i64 i] = some (.ret (.bool (lowB xs i.toNat)), []) := by
  show S70 _ [] encK = _
  rw [N70, hu, decide_eq_true hL, decide_eq_true h0, decide_eq_true h1]
  cases lowB xs i.toNat <;> rfl

/-- ferryman/addr.Check4 -/
noncomputable def T56 : List (FuncId × FSpec) := [(70, V70)]
theorem T56_ok : TabOK Try.prog T56 := TabOK.cons En70 V70_ok (TabOK.nil _)
noncomputable def C56 : Ctx := (ctx E T56 [] [(0, [1]), (1, [18]), (2, [2]), (3, [2])] [1000070] 19 70)
theorem C56_ok : CtxOK Try.prog C56 := ctx_ok E_ok E_flds mixed T56_ok
noncomputable def S56 : FSpec := inlineK C56 Try.f56
theorem S56_ok : SpecOK Try.prog 56 S56 := inlineK_ok C56_ok Try.func56 (fun _ _ => LoopsOK.none _)
theorem En56 : Enters Try.prog 56 := ⟨_, Try.func56, by decide, rfl⟩
noncomputable def R56 (args : List AV) : Res := S56 args [] encK
noncomputable def V56 : FSpec := leafK (.int .i64) R56
theorem V56_ok : SpecOK Try.prog 56 V56 := leafK_ok S56_ok (fun _ => rfl)
theorem N56 (x : Nat → Int) (n : Int) : S56 [.agg [.int .u8 (x 0), .int .u8 (x 1), .int .u8 (x 2), .int .u8 (x 3), .int .i64 n]] [] encK =
  aIf (decide (n < 0)) (some (AEnd.ret (AV.int IntKind.i64 22), [])) (aIf (decide (n > 32)) (some (AEnd.ret (AV.int IntKind.i64 22), [])) (aIf (shOK Sh.bool (R70 [AV.fs 1 [AV.int IntKind.u8 (x 0), AV.int IntKind.u8 (x 1), AV.int IntKind.u8 (x 2), AV.int IntKind.u8 (x 3)] SF.any, AV.int IntKind.i64 n])) (aIf (!(sel (R70 [AV.fs 1 [AV.int IntKind.u8 (x 0), AV.int IntKind.u8 (x 1), AV.int IntKind.u8 (x 2), AV.int IntKind.u8 (x 3)] SF.any, AV.int IntKind.i64 n]) []).toBool) (some (AEnd.ret (AV.int IntKind.i64 22), [])) (some (AEnd.ret (AV.int IntKind.i64 0), []))) none)) := by kernel_rfl
theorem R56_is {x : Nat → Int} {n : Int} (hx : b8 x) : R56 [.agg [.int .u8 (x 0), .int .u8 (x 1), .int .u8 (x 2), .int .u8 (x 3), .int .i64 n]] = some (.ret (.int .i64 (chkE 32 [.int .u8 (x 0), .int .u8 (x 1), .int .u8 (x 2), .int .u8 (x 3)] n)), []) := by
  show S56 _ [] encK = _
  have ti : ∀ k n, (AV.int k n).toInt = n := fun _ _ => rfl
  have tb : ∀ b, (AV.bool b).toBool = b := fun _ => rfl
  have si : ∀ k n, sel (some (AEnd.ret (AV.int k n), [])) [] = .int k n := fun _ _ => rfl
  have sb : ∀ b, sel (some (AEnd.ret (AV.bool b), [])) [] = .bool b := fun _ => rfl
  rw [N56]
  unfold chkE
  cases h1 : decide (n < 0)
  · cases h2 : decide (n > 32)
    · have g1 := of_decide_eq_false h1
      have g2 := of_decide_eq_false h2
      have e := R70_is (fl := .any) (b8_4 hx) (show 4 ≤ 1000000 by decide) (i := n) (by omega) (show n ≤ 8 * ((4 : Nat) : Int) by omega)
      simp only [e, shOK_ret, has_bool, sb, tb, aIf_true, aIf_false, cond_false]
      cases lowB [.int .u8 (x 0), .int .u8 (x 1), .int .u8 (x 2), .int .u8 (x 3)] n.toNat <;> rfl
    · rfl
  · rfl

/-- (*ferryman/trie.tree).get -/
noncomputable def T60 : List (FuncId × FSpec) := [(43, S43), (73, S73)]
theorem T60_ok : TabOK Try.prog T60 := TabOK.cons En43 S43_ok (TabOK.cons En73 S73_ok (TabOK.nil _))
noncomputable def C60 : Ctx := (ctx E T60 [] [(0, [0, 1, 5]), (1, [0, 1, 5, 8, 9]), (2, [8, 9]), (3, [6, 7])] [] 17 70)
theorem C60_ok : CtxOK Try.prog C60 := ctx_ok E_ok E_flds mixed T60_ok
noncomputable def S60 : FSpec := inlineK C60 Try.f60
theorem S60_ok : SpecOK Try.prog 60 S60 := inlineK_ok C60_ok Try.func60 (fun _ _ => LoopsOK.none _)
theorem En60 : Enters Try.prog 60 := ⟨_, Try.func60, by decide, rfl⟩

/-- (*ferryman/trie.fork).add -/
noncomputable def T75 : List (FuncId × FSpec) := [(66, S66)]
theorem T75_ok : TabOK Try.prog T75 := TabOK.cons En66 S66_ok (TabOK.nil _)
noncomputable def C75 : Ctx := (ctx E T75 [] [(0, [0, 1, 12]), (1, []), (2, [])] [] 38 70)
theorem C75_ok : CtxOK Try.prog C75 := ctx_ok E_ok E_flds mixed T75_ok
noncomputable def S75 : FSpec := inlineK C75 Try.f75
theorem S75_ok : SpecOK Try.prog 75 S75 := inlineK_ok C75_ok Try.func75 (fun _ _ => LoopsOK.none _)
theorem En75 : Enters Try.prog 75 := ⟨_, Try.func75, by decide, rfl⟩

/-- (*ferryman/trie.tree).put -/
noncomputable def T71 : List (FuncId × FSpec) := [(65, S65), (66, S66), (75, S75)]
theorem T71_ok : TabOK Try.prog T71 := TabOK.cons En65 S65_ok (TabOK.cons En66 S66_ok (TabOK.cons En75 S75_ok (TabOK.nil _)))
noncomputable def C71 : Ctx := (ctx E T71 [] [(0, [0, 1, 2, 3]), (1, [0, 2, 3, 18]), (2, [0, 2, 3, 18, 19]), (3, [3]), (4, [8, 9]), (5, [0, 2, 3, 18, 23, 24]), (6, [0, 2, 3, 11]), (7, [0, 2, 3, 11, 48]), (8, [11]), (9, [8, 9]), (10, [0, 2, 3, 11, 12]), (11, [0, 2, 3, 12]), (12, [8, 9]), (13, [0, 2, 3, 73, 74]), (14, [0, 2, 3, 13]), (15, [0, 2, 3, 13, 80]), (16, [3, 13, 14]), (17, [13, 14]), (18, [8, 9]), (19, [0, 2, 3, 13, 15]), (20, [13, 15, 16, 17]), (21, [13, 17]), (22, [8, 9]), (23, [])] [] 128 70)
theorem C71_ok : CtxOK Try.prog C71 := ctx_ok E_ok E_flds mixed T71_ok
noncomputable def S71 : FSpec := inlineK C71 Try.f71
theorem S71_ok : SpecOK Try.prog 71 S71 := inlineK_ok C71_ok Try.func71 (fun _ _ => LoopsOK.none _)
theorem En71 : Enters Try.prog 71 := ⟨_, Try.func71, by decide, rfl⟩

/-- (*ferryman/trie.Table).put -/
noncomputable def T57 : List (FuncId × FSpec) := [(60, S60), (71, S71)]
theorem T57_ok : TabOK Try.prog T57 := TabOK.cons En60 S60_ok (TabOK.cons En71 S71_ok (TabOK.nil _))
noncomputable def C57 : Ctx := (ctx E T57 [] [(0, [0, 1, 2, 3, 4]), (1, [0, 1, 2, 3, 4, 13]), (2, [0, 1, 2, 3, 4, 24]), (3, [0, 1, 2, 3, 4, 33]), (4, [10, 11]), (5, [1, 2, 3, 4]), (6, [1, 14, 15]), (7, [15]), (8, [10, 11])] [] 62 70)
theorem C57_ok : CtxOK Try.prog C57 := ctx_ok E_ok E_flds mixed T57_ok
noncomputable def S57 : FSpec := inlineK C57 Try.f57
theorem S57_ok : SpecOK Try.prog 57 S57 := inlineK_ok C57_ok Try.func57 (fun _ _ => LoopsOK.none _)
theorem En57 : Enters Try.prog 57 := ⟨_, Try.func57, by decide, rfl⟩

/-- (*ferryman/trie.Table).Put4 -/
noncomputable def T20 : List (FuncId × FSpec) := [(55, S55), (56, V56), (57, S57)]
theorem T20_ok : TabOK Try.prog T20 := TabOK.cons En55 S55_ok (TabOK.cons En56 V56_ok (TabOK.cons En57 S57_ok (TabOK.nil _)))
noncomputable def C20 : Ctx := (ctx E T20 [] [(0, [0, 2, 4]), (1, [0, 2, 4, 8]), (2, [0, 2, 4, 8, 14]), (3, [6, 7]), (4, [6, 7])] [] 28 70)
theorem C20_ok : CtxOK Try.prog C20 := ctx_ok E_ok E_flds mixed T20_ok
noncomputable def S20 : FSpec := inlineK C20 Try.f20
theorem S20_ok : SpecOK Try.prog 20 S20 := inlineK_ok C20_ok Try.func20 (fun _ _ => LoopsOK.none _)
theorem En20 : Enters Try.prog 20 := ⟨_, Try.func20, by decide, rfl⟩

/-- (*ferryman/trie.Table).Len -/
noncomputable def T30 : List (FuncId × FSpec) := [(42, S42)]
theorem T30_ok : TabOK Try.prog T30 := TabOK.cons En42 S42_ok (TabOK.nil _)
noncomputable def C30 : Ctx := (ctx E T30 [] [(0, [0]), (1, [0, 5]), (2, [2]), (3, [2])] [] 10 70)
theorem C30_ok : CtxOK Try.prog C30 := ctx_ok E_ok E_flds mixed T30_ok
noncomputable def S30 : FSpec := inlineK C30 Try.f30
theorem S30_ok : SpecOK Try.prog 30 S30 := inlineK_ok C30_ok Try.func30 (fun _ _ => LoopsOK.none _)
theorem En30 : Enters Try.prog 30 := ⟨_, Try.func30, by decide, rfl⟩

noncomputable def T8z : List (FuncId × FSpec) := []
theorem T8z_ok : TabOK Try.prog T8z := TabOK.nil _
noncomputable def C8z : Ctx := (ctx E T8z [] [(0, [0]), (1, [0, 9]), (2, [2, 3]), (3, [2, 3])] [] 13 70)
noncomputable def S8z : FSpec := liveK C8z Try.f8
theorem C8z_ok : CtxOK Try.prog C8z := ctx_ok E_ok E_flds mixed T8z_ok
theorem S8z_ok : SpecOK Try.prog 8 S8z := liveK_ok C8z_ok Try.func8 (fun _ _ => LoopsOK.none _)
noncomputable def T42z : List (FuncId × FSpec) := []
theorem T42z_ok : TabOK Try.prog T42z := TabOK.nil _
noncomputable def C42z : Ctx := (ctx E T42z [] [(0, [0]), (1, [2])] [] 11 70)
noncomputable def S42z : FSpec := inlineK C42z Try.f42
theorem C42z_ok : CtxOK Try.prog C42z := ctx_ok E_ok E_flds mixed T42z_ok
theorem S42z_ok : SpecOK Try.prog 42 S42z := inlineK_ok C42z_ok Try.func42 (fun _ _ => LoopsOK.none _)
noncomputable def T66z : List (FuncId × FSpec) := []
theorem T66z_ok : TabOK Try.prog T66z := TabOK.nil _
noncomputable def C66z : Ctx := (ctx E T66z [] [(0, [0, 1]), (1, [4])] [] 16 70)
noncomputable def S66z : FSpec := inlineK C66z Try.f66
theorem C66z_ok : CtxOK Try.prog C66z := ctx_ok E_ok E_flds mixed T66z_ok
theorem S66z_ok : SpecOK Try.prog 66 S66z := inlineK_ok C66z_ok Try.func66 (fun _ _ => LoopsOK.none _)
noncomputable def T65z : List (FuncId × FSpec) := [(66, S66z)]
theorem T65z_ok : TabOK Try.prog T65z := TabOK.cons En66 S66z_ok (TabOK.nil _)
noncomputable def C65z : Ctx := (ctx E T65z [] [(0, [0, 1, 2]), (1, [0, 1, 8, 9]), (2, [0, 1, 8, 9, 10]), (3, [0, 1, 7, 8, 9]), (4, [0, 1, 8, 9, 18]), (5, [6]), (6, [0, 1, 8, 9]), (7, [6]), (1000002, [0, 1, 8, 9])] [] 20 70)
noncomputable def S65z : FSpec := inlineK C65z Try.f65
theorem C65z_ok : CtxOK Try.prog C65z := ctx_ok E_ok E_flds mixed T65z_ok
theorem S65z_ok : SpecOK Try.prog 65 S65z := inlineK_ok C65z_ok Try.func65 (fun _ _ => LoopsOK.none _)
noncomputable def T67z : List (FuncId × FSpec) := []
theorem T67z_ok : TabOK Try.prog T67z := TabOK.nil _
noncomputable def C67z : Ctx := (ctx E T67z [] [(0, [0, 4]), (1, [0, 4, 10]), (2, [0, 4]), (3, [0, 4]), (1000001, [0, 4])] [] 24 70)
noncomputable def S67z : FSpec := inlineK C67z Try.f67
theorem C67z_ok : CtxOK Try.prog C67z := ctx_ok E_ok E_flds mixed T67z_ok
theorem S67z_ok : SpecOK Try.prog 67 S67z := inlineK_ok C67z_ok Try.func67 (fun _ _ => LoopsOK.none _)
noncomputable def T45z : List (FuncId × FSpec) := [(67, S67z)]
theorem T45z_ok : TabOK Try.prog T45z := TabOK.cons En67 S67z_ok (TabOK.nil _)
noncomputable def C45z : Ctx := (ctx E T45z [] [(0, [1, 2, 4]), (1, [1, 2, 4, 11]), (2, [4, 5]), (3, [1, 2, 4]), (4, [4, 5])] [] 19 70)
noncomputable def S45z : FSpec := inlineK C45z Try.f45
theorem C45z_ok : CtxOK Try.prog C45z := ctx_ok E_ok E_flds mixed T45z_ok
theorem S45z_ok : SpecOK Try.prog 45 S45z := inlineK_ok C45z_ok Try.func45 (fun _ _ => LoopsOK.none _)
noncomputable def T44z : List (FuncId × FSpec) := [(45, S45z)]
theorem T44z_ok : TabOK Try.prog T44z := TabOK.cons En45 S45z_ok (TabOK.nil _)
noncomputable def C44z : Ctx := (ctx E T44z [] [(0, [1, 3, 4, 7]), (1, [])] [] 18 70)
noncomputable def S44z : FSpec := inlineK C44z Try.f44
theorem C44z_ok : CtxOK Try.prog C44z := ctx_ok E_ok E_flds mixed T44z_ok
theorem S44z_ok : SpecOK Try.prog 44 S44z := inlineK_ok C44z_ok Try.func44 (fun _ _ => LoopsOK.none _)
noncomputable def T47z : List (FuncId × FSpec) := [(67, S67z)]
theorem T47z_ok : TabOK Try.prog T47z := TabOK.cons En67 S67z_ok (TabOK.nil _)
noncomputable def C47z : Ctx := (ctx E T47z [] [(0, [1, 2, 4]), (1, [1, 2, 4, 11]), (2, [4, 5]), (3, [1, 2, 4]), (4, [4, 5])] [] 19 70)
noncomputable def S47z : FSpec := inlineK C47z Try.f47
theorem C47z_ok : CtxOK Try.prog C47z := ctx_ok E_ok E_flds mixed T47z_ok
theorem S47z_ok : SpecOK Try.prog 47 S47z := inlineK_ok C47z_ok Try.func47 (fun _ _ => LoopsOK.none _)
noncomputable def T46z : List (FuncId × FSpec) := [(47, S47z)]
theorem T46z_ok : TabOK Try.prog T46z := TabOK.cons En47 S47z_ok (TabOK.nil _)
noncomputable def C46z : Ctx := (ctx E T46z [] [(0, [1, 3, 4, 7]), (1, [])] [] 18 70)
noncomputable def S46z : FSpec := inlineK C46z Try.f46
theorem C46z_ok : CtxOK Try.prog C46z := ctx_ok E_ok E_flds mixed T46z_ok
theorem S46z_ok : SpecOK Try.prog 46 S46z := inlineK_ok C46z_ok Try.func46 (fun _ _ => LoopsOK.none _)
noncomputable def T73z : List (FuncId × FSpec) := []
theorem T73z_ok : TabOK Try.prog T73z := TabOK.nil _
noncomputable def C73z : Ctx := (ctx E T73z [] [(0, [1, 3, 4, 9]), (1, [])] [] 11 70)
noncomputable def S73z : FSpec := inlineK C73z Try.f73
theorem C73z_ok : CtxOK Try.prog C73z := ctx_ok E_ok E_flds mixed T73z_ok
theorem S73z_ok : SpecOK Try.prog 73 S73z := inlineK_ok C73z_ok Try.func73 (fun _ _ => LoopsOK.none _)
noncomputable def T43z : List (FuncId × FSpec) := [(65, S65z), (66, S66z), (44, S44z), (46, S46z), (73, S73z)]
theorem T43z_ok : TabOK Try.prog T43z := TabOK.cons En65 S65z_ok (TabOK.cons En66 S66z_ok (TabOK.cons En44 S44z_ok (TabOK.cons En46 S46z_ok (TabOK.cons En73 S73z_ok (TabOK.nil _)))))
noncomputable def C43z : Ctx := (ctx E T43z [] [(0, [1, 2, 3, 8]), (1, [1, 2, 3, 8, 9]), (2, [1, 2, 3, 8, 9, 18]), (3, [1, 2, 3, 8, 9]), (4, [1, 2, 3, 8, 9, 10, 11]), (5, [1, 2, 3, 8, 9, 10, 26]), (6, [3, 10, 44]), (7, []), (8, [1, 2, 3, 9, 12]), (9, [1, 2, 3, 9, 12, 60]), (10, [1, 2, 3, 9, 12]), (11, [1, 2, 3, 9, 12, 70]), (12, [1, 2, 3, 8, 9]), (1000002, [1, 2, 3, 8, 9])] [65, 66] 79 70)
noncomputable def S43z : FSpec := inlineK C43z Try.f43
theorem C43z_ok : CtxOK Try.prog C43z := ctx_ok E_ok E_flds mixed T43z_ok
theorem S43z_ok : SpecOK Try.prog 43 S43z := inlineK_ok C43z_ok Try.func43 (fun _ _ => LoopsOK.none _)
noncomputable def T14z : List (FuncId × FSpec) := [(42, S42z), (43, S43z), (44, S44z)]
theorem T14z_ok : TabOK Try.prog T14z := TabOK.cons En42 S42z_ok (TabOK.cons En43 S43z_ok (TabOK.cons En44 S44z_ok (TabOK.nil _)))
noncomputable def C14z : Ctx := (ctx E T14z [] [(0, [0, 3, 4]), (1, [0, 3, 4, 6]), (2, [0, 3, 4, 6, 7]), (3, [0, 3, 4, 6, 7, 9]), (4, [4, 6, 7]), (5, [4, 5])] [43] 18 70)
noncomputable def S14z : FSpec := inlineK C14z Try.f14
theorem C14z_ok : CtxOK Try.prog C14z := ctx_ok E_ok E_flds mixed T14z_ok
theorem S14z_ok : SpecOK Try.prog 14 S14z := inlineK_ok C14z_ok Try.func14 (fun _ _ => LoopsOK.none _)
noncomputable def T55z : List (FuncId × FSpec) := [(42, S42z)]
theorem T55z_ok : TabOK Try.prog T55z := TabOK.cons En42 S42z_ok (TabOK.nil _)
noncomputable def C55z : Ctx := (ctx E T55z [] [(0, [0, 1]), (1, [1, 7]), (2, [4]), (3, [4])] [] 9 70)
noncomputable def S55z : FSpec := inlineK C55z Try.f55
theorem C55z_ok : CtxOK Try.prog C55z := ctx_ok E_ok E_flds mixed T55z_ok
theorem S55z_ok : SpecOK Try.prog 55 S55z := inlineK_ok C55z_ok Try.func55 (fun _ _ => LoopsOK.none _)
noncomputable def T70z : List (FuncId × FSpec) := []
theorem T70z_ok : TabOK Try.prog T70z := TabOK.nil _
noncomputable def C70z : Ctx := (ctx E T70z [] [(0, [0, 1]), (1, [0, 5]), (2, [0, 5, 11]), (3, [0, 5]), (4, [0, 5, 24]), (5, [4]), (6, [4]), (1000002, [0, 5])] [] 25 70)
noncomputable def S70z : FSpec := inlineK C70z Try.f70
theorem C70z_ok : CtxOK Try.prog C70z := ctx_ok E_ok E_flds mixed T70z_ok
theorem S70z_ok : SpecOK Try.prog 70 S70z := inlineK_ok C70z_ok Try.func70 (fun _ _ => LoopsOK.none _)
noncomputable def T56z : List (FuncId × FSpec) := [(70, S70z)]
theorem T56z_ok : TabOK Try.prog T56z := TabOK.cons En70 S70z_ok (TabOK.nil _)
noncomputable def C56z : Ctx := (ctx E T56z [] [(0, [1]), (1, [18]), (2, [2]), (3, [2])] [1000070] 19 70)
noncomputable def S56z : FSpec := inlineK C56z Try.f56
theorem C56z_ok : CtxOK Try.prog C56z := ctx_ok E_ok E_flds mixed T56z_ok
theorem S56z_ok : SpecOK Try.prog 56 S56z := inlineK_ok C56z_ok Try.func56 (fun _ _ => LoopsOK.none _)
noncomputable def T60z : List (FuncId × FSpec) := [(43, S43z), (73, S73z)]
theorem T60z_ok : TabOK Try.prog T60z := TabOK.cons En43 S43z_ok (TabOK.cons En73 S73z_ok (TabOK.nil _))
noncomputable def C60z : Ctx := (ctx E T60z [] [(0, [0, 1, 5]), (1, [0, 1, 5, 8, 9]), (2, [8, 9]), (3, [6, 7])] [] 17 70)
noncomputable def S60z : FSpec := inlineK C60z Try.f60
theorem C60z_ok : CtxOK Try.prog C60z := ctx_ok E_ok E_flds mixed T60z_ok
theorem S60z_ok : SpecOK Try.prog 60 S60z := inlineK_ok C60z_ok Try.func60 (fun _ _ => LoopsOK.none _)
noncomputable def T75z : List (FuncId × FSpec) := [(66, S66z)]
theorem T75z_ok : TabOK Try.prog T75z := TabOK.cons En66 S66z_ok (TabOK.nil _)
noncomputable def C75z : Ctx := (ctx E T75z [] [(0, [0, 1, 12]), (1, []), (2, [])] [66] 38 70)
noncomputable def S75z : FSpec := inlineK C75z Try.f75
theorem C75z_ok : CtxOK Try.prog C75z := ctx_ok E_ok E_flds mixed T75z_ok
theorem S75z_ok : SpecOK Try.prog 75 S75z := inlineK_ok C75z_ok Try.func75 (fun _ _ => LoopsOK.none _)
noncomputable def S71zR : Nat → FSpec
  | 0 => fun _ _ _ => none
  | n + 1 => inlineK (ctx E [(65, S65z), (66, S66z), (75, S75z), (71, S71zR n)] [] [(0, [0, 1, 2, 3]), (1, [0, 2, 3, 18]), (2, [0, 2, 3, 18, 19]), (3, [3]), (4, [8, 9]), (5, [0, 2, 3, 18, 23, 24]), (6, [0, 2, 3, 11]), (7, [0, 2, 3, 11, 48]), (8, [11]), (9, [8, 9]), (10, [0, 2, 3, 11, 12]), (11, [0, 2, 3, 12]), (12, [8, 9]), (13, [0, 2, 3, 73, 74]), (14, [0, 2, 3, 13]), (15, [0, 2, 3, 13, 80]), (16, [3, 13, 14]), (17, [13, 14]), (18, [8, 9]), (19, [0, 2, 3, 13, 15]), (20, [13, 15, 16, 17]), (21, [13, 17]), (22, [8, 9]), (23, [])] [65] 128 70) Try.f71
noncomputable def S71z : FSpec := S71zR 140
theorem S71zR_ok : ∀ n, SpecOK Try.prog 71 (S71zR n)
  | 0 => SpecOK.never
  | n + 1 => inlineK_ok (ctx_ok E_ok E_flds mixed (TabOK.cons En65 S65z_ok (TabOK.cons En66 S66z_ok (TabOK.cons En75 S75z_ok (TabOK.cons En71 (S71zR_ok n) (TabOK.nil _)))))) Try.func71 (fun _ _ => LoopsOK.none _)
theorem S71z_ok : SpecOK Try.prog 71 S71z := S71zR_ok 140
noncomputable def T57z : List (FuncId × FSpec) := [(60, S60z), (71, S71z)]
theorem T57z_ok : TabOK Try.prog T57z := TabOK.cons En60 S60z_ok (TabOK.cons En71 S71z_ok (TabOK.nil _))
noncomputable def C57z : Ctx := (ctx E T57z [] [(0, [0, 1, 2, 3, 4]), (1, [0, 1, 2, 3, 4, 13]), (2, [0, 1, 2, 3, 4, 24]), (3, [0, 1, 2, 3, 4, 33]), (4, [10, 11]), (5, [1, 2, 3, 4]), (6, [1, 14, 15]), (7, [15]), (8, [10, 11])] [71] 62 70)
noncomputable def S57z : FSpec := inlineK C57z Try.f57
theorem C57z_ok : CtxOK Try.prog C57z := ctx_ok E_ok E_flds mixed T57z_ok
theorem S57z_ok : SpecOK Try.prog 57 S57z := inlineK_ok C57z_ok Try.func57 (fun _ _ => LoopsOK.none _)
noncomputable def T20z : List (FuncId × FSpec) := [(55, S55z), (56, S56z), (57, S57z)]
theorem T20z_ok : TabOK Try.prog T20z := TabOK.cons En55 S55z_ok (TabOK.cons En56 S56z_ok (TabOK.cons En57 S57z_ok (TabOK.nil _)))
noncomputable def C20z : Ctx := (ctx E T20z [] [(0, [0, 2, 4]), (1, [0, 2, 4, 8]), (2, [0, 2, 4, 8, 14]), (3, [6, 7]), (4, [6, 7])] [57] 28 70)
noncomputable def S20z : FSpec := inlineK C20z Try.f20
theorem C20z_ok : CtxOK Try.prog C20z := ctx_ok E_ok E_flds mixed T20z_ok
theorem S20z_ok : SpecOK Try.prog 20 S20z := inlineK_ok C20z_ok Try.func20 (fun _ _ => LoopsOK.none _)
noncomputable def T30z : List (FuncId × FSpec) := [(42, S42z)]
theorem T30z_ok : TabOK Try.prog T30z := TabOK.cons En42 S42z_ok (TabOK.nil _)
noncomputable def C30z : Ctx := (ctx E T30z [] [(0, [0]), (1, [0, 5]), (2, [2]), (3, [2])] [] 10 70)
noncomputable def S30z : FSpec := inlineK C30z Try.f30
theorem C30z_ok : CtxOK Try.prog C30z := ctx_ok E_ok E_flds mixed T30z_ok
theorem S30z_ok : SpecOK Try.prog 30 S30z := inlineK_ok C30z_ok Try.func30 (fun _ _ => LoopsOK.none _)
/-- ferryman/ferrymanlaw12.awake -/
noncomputable def T10 : List (FuncId × FSpec) := [(8, S8z), (14, S14z), (20, S20z), (30, S30z)]
theorem T10_ok : TabOK Try.prog T10 := TabOK.cons En8 S8z_ok (TabOK.cons En14 S14z_ok (TabOK.cons En20 S20z_ok (TabOK.cons En30 S30z_ok (TabOK.nil _))))
noncomputable def C10 : Ctx := (ctx E T10 [] [(0, []), (1, [1, 2]), (2, [1, 18]), (3, [0]), (4, [1]), (5, [1]), (6, [1, 3, 4]), (7, [1, 3, 4, 5, 6]), (8, [1, 3, 4, 5, 6, 8]), (9, [0])] [8] 68 70)
theorem C10_ok : CtxOK Try.prog C10 := ctx_ok E_ok E_flds mixed T10_ok
noncomputable def B10 : FSpec := inlineK C10 Try.f10
noncomputable def S10 : FSpec := constK (AV.bool true)
theorem B10_ok : SpecOK Try.prog 10 B10 := inlineK_ok C10_ok Try.func10 (fun _ _ => LoopsOK.none _)
theorem B10_is (k : KE) : B10 [] [] k = k (.ret (AV.bool true)) [] := by kernel_rfl
theorem S10_ok : SpecOK Try.prog 10 S10 := constK_ok B10_ok B10_is
theorem En10 : Enters Try.prog 10 := ⟨_, Try.func10, by decide, rfl⟩

/-- (*ferryman/trie.Table).Best6 -/
noncomputable def T15 : List (FuncId × FSpec) := [(42, S42), (43, S43), (46, S46)]
theorem T15_ok : TabOK Try.prog T15 := TabOK.cons En42 S42_ok (TabOK.cons En43 S43_ok (TabOK.cons En46 S46_ok (TabOK.nil _)))
noncomputable def C15 : Ctx := (ctx E T15 [] [(0, [0, 3, 4]), (1, [0, 3, 4, 6]), (2, [0, 3, 4, 6, 7]), (3, [0, 3, 4, 6, 7, 9]), (4, [4, 6, 7]), (5, [4, 5])] [] 18 70)
theorem C15_ok : CtxOK Try.prog C15 := ctx_ok E_ok E_flds mixed T15_ok
noncomputable def S15 : FSpec := inlineK C15 Try.f15
theorem S15_ok : SpecOK Try.prog 15 S15 := inlineK_ok C15_ok Try.func15 (fun _ _ => LoopsOK.none _)
theorem En15 : Enters Try.prog 15 := ⟨_, Try.func15, by decide, rfl⟩

/-- (*ferryman/trie.Table).All4$1 -/
noncomputable def T49 : List (FuncId × FSpec) := []
theorem T49_ok : TabOK Try.prog T49 := TabOK.nil _
noncomputable def C49 : Ctx := (ctx E T49 [] [(0, [0, 1, 3, 7]), (1, [1, 3, 7]), (2, [3, 7]), (3, [])] [] 22 70)
theorem C49_ok : CtxOK Try.prog C49 := ctx_ok E_ok E_flds mixed T49_ok
noncomputable def S49 : FSpec := inlineK C49 Try.f49
theorem S49_ok : SpecOK Try.prog 49 S49 := inlineK_ok C49_ok Try.func49 (fun _ _ => LoopsOK.none _)
theorem En49 : Enters Try.prog 49 := ⟨_, Try.func49, by decide, rfl⟩

/-- (*ferryman/trie.Table).All6$1 -/
noncomputable def T50 : List (FuncId × FSpec) := []
theorem T50_ok : TabOK Try.prog T50 := TabOK.nil _
noncomputable def C50 : Ctx := (ctx E T50 [] [(0, [0, 1, 3, 7]), (1, [1, 3, 7]), (2, [3, 7]), (3, [])] [] 22 70)
theorem C50_ok : CtxOK Try.prog C50 := ctx_ok E_ok E_flds mixed T50_ok
noncomputable def S50 : FSpec := inlineK C50 Try.f50
theorem S50_ok : SpecOK Try.prog 50 S50 := inlineK_ok C50_ok Try.func50 (fun _ _ => LoopsOK.none _)
theorem En50 : Enters Try.prog 50 := ⟨_, Try.func50, by decide, rfl⟩

/-- (*ferryman/trie.tree).walk -/
noncomputable def T48 : List (FuncId × FSpec) := [(49, S49), (50, S50)]
theorem T48_ok : TabOK Try.prog T48 := TabOK.cons En49 S49_ok (TabOK.cons En50 S50_ok (TabOK.nil _))
noncomputable def C48 : Ctx := (ctx E T48 [] [(0, [0, 2, 3, 4, 15]), (1, [0, 2, 3, 4, 15, 17, 18]), (2, [4, 10]), (3, []), (4, [0, 2, 3, 4, 34, 35]), (5, [0, 2, 3, 4, 11]), (6, [0, 2, 3, 4, 11, 39]), (7, [0, 2, 3, 4, 11]), (8, [0, 2, 3, 4, 51, 52]), (9, [0, 2, 3, 4, 51, 52, 53]), (10, [0, 2, 3, 4, 12, 13, 51, 52]), (11, [0, 2, 3, 4, 12, 13, 14, 51, 52]), (12, [0, 2, 3, 4, 12, 13, 14, 51, 52, 63]), (13, [0, 2, 3, 4, 13, 14, 51, 52]), (14, [0, 2, 3, 4, 51, 52]), (15, [0, 2, 3, 4, 51, 52]), (1000009, [0, 2, 3, 4, 51, 52])] [] 85 70)
theorem C48_ok : CtxOK Try.prog C48 := ctx_ok E_ok E_flds mixed T48_ok
noncomputable def S48 : FSpec := inlineK C48 Try.f48
theorem S48_ok : SpecOK Try.prog 48 S48 := inlineK_ok C48_ok Try.func48 (fun _ _ => LoopsOK.none _)
theorem En48 : Enters Try.prog 48 := ⟨_, Try.func48, by decide, rfl⟩

/-- (*ferryman/trie.Table).All4 -/
noncomputable def T16 : List (FuncId × FSpec) := [(42, S42), (48, S48), (49, S49)]
theorem T16_ok : TabOK Try.prog T16 := TabOK.cons En42 S42_ok (TabOK.cons En48 S48_ok (TabOK.cons En49 S49_ok (TabOK.nil _)))
noncomputable def C16 : Ctx := (ctx E T16 [] [(0, [0]), (1, [0, 6]), (2, [2]), (3, [0, 3]), (4, [3]), (5, [2])] [] 19 70)
theorem C16_ok : CtxOK Try.prog C16 := ctx_ok E_ok E_flds mixed T16_ok
noncomputable def S16 : FSpec := inlineK C16 Try.f16
theorem S16_ok : SpecOK Try.prog 16 S16 := inlineK_ok C16_ok Try.func16 (fun _ _ => LoopsOK.none _)
theorem En16 : Enters Try.prog 16 := ⟨_, Try.func16, by decide, rfl⟩

/-- (*ferryman/trie.Table).All6 -/
noncomputable def T17 : List (FuncId × FSpec) := [(42, S42), (48, S48), (50, S50)]
theorem T17_ok : TabOK Try.prog T17 := TabOK.cons En42 S42_ok (TabOK.cons En48 S48_ok (TabOK.cons En50 S50_ok (TabOK.nil _)))
noncomputable def C17 : Ctx := (ctx E T17 [] [(0, [0]), (1, [0, 6]), (2, [2]), (3, [0, 3]), (4, [3]), (5, [2])] [] 19 70)
theorem C17_ok : CtxOK Try.prog C17 := ctx_ok E_ok E_flds mixed T17_ok
noncomputable def S17 : FSpec := inlineK C17 Try.f17
theorem S17_ok : SpecOK Try.prog 17 S17 := inlineK_ok C17_ok Try.func17 (fun _ _ => LoopsOK.none _)
theorem En17 : Enters Try.prog 17 := ⟨_, Try.func17, by decide, rfl⟩

/-- ferryman/addr.Check6 -/
noncomputable def T58 : List (FuncId × FSpec) := [(70, V70)]
theorem T58_ok : TabOK Try.prog T58 := TabOK.cons En70 V70_ok (TabOK.nil _)
noncomputable def C58 : Ctx := (ctx E T58 [] [(0, [1]), (1, [18]), (2, [2]), (3, [2])] [1000070] 19 70)
theorem C58_ok : CtxOK Try.prog C58 := ctx_ok E_ok E_flds mixed T58_ok
noncomputable def S58 : FSpec := inlineK C58 Try.f58
theorem S58_ok : SpecOK Try.prog 58 S58 := inlineK_ok C58_ok Try.func58 (fun _ _ => LoopsOK.none _)
theorem En58 : Enters Try.prog 58 := ⟨_, Try.func58, by decide, rfl⟩
noncomputable def R58 (args : List AV) : Res := S58 args [] encK
noncomputable def V58 : FSpec := leafK (.int .i64) R58
theorem V58_ok : SpecOK Try.prog 58 V58 := leafK_ok S58_ok (fun _ => rfl)
theorem N58 (x : Nat → Int) (n : Int) : S58 [.agg [.int .u8 (x 0), .int .u8 (x 1), .int .u8 (x 2), .int .u8 (x 3), .int .u8 (x 4), .int .u8 (x 5), .int .u8 (x 6), .int .u8 (x 7), .int .u8 (x 8), .int .u8 (x 9), .int .u8 (x 10), .int .u8 (x 11), .int .u8 (x 12), .int .u8 (x 13), .int .u8 (x 14), .int .u8 (x 15), .int .i64 n]] [] encK =
  aIf (decide (n < 0)) (some (AEnd.ret (AV.int IntKind.i64 22), [])) (aIf (decide (n > 128)) (some (AEnd.ret (AV.int IntKind.i64 22), [])) (aIf (shOK Sh.bool (R70 [AV.fs 1 [AV.int IntKind.u8 (x 0), AV.int IntKind.u8 (x 1), AV.int IntKind.u8 (x 2), AV.int IntKind.u8 (x 3), AV.int IntKind.u8 (x 4), AV.int IntKind.u8 (x 5), AV.int IntKind.u8 (x 6), AV.int IntKind.u8 (x 7), AV.int IntKind.u8 (x 8), AV.int IntKind.u8 (x 9), AV.int IntKind.u8 (x 10), AV.int IntKind.u8 (x 11), AV.int IntKind.u8 (x 12), AV.int IntKind.u8 (x 13), AV.int IntKind.u8 (x 14), AV.int IntKind.u8 (x 15)] SF.any, AV.int IntKind.i64 n])) (aIf (!(sel (R70 [AV.fs 1 [AV.int IntKind.u8 (x 0), AV.int IntKind.u8 (x 1), AV.int IntKind.u8 (x 2), AV.int IntKind.u8 (x 3), AV.int IntKind.u8 (x 4), AV.int IntKind.u8 (x 5), AV.int IntKind.u8 (x 6), AV.int IntKind.u8 (x 7), AV.int IntKind.u8 (x 8), AV.int IntKind.u8 (x 9), AV.int IntKind.u8 (x 10), AV.int IntKind.u8 (x 11), AV.int IntKind.u8 (x 12), AV.int IntKind.u8 (x 13), AV.int IntKind.u8 (x 14), AV.int IntKind.u8 (x 15)] SF.any, AV.int IntKind.i64 n]) []).toBool) (some (AEnd.ret (AV.int IntKind.i64 22), [])) (some (AEnd.ret (AV.int IntKind.i64 0), []))) none)) := by kernel_rfl
theorem R58_is {x : Nat → Int} {n : Int} (hx : b8 x) : R58 [.agg [.int .u8 (x 0), .int .u8 (x 1), .int .u8 (x 2), .int .u8 (x 3), .int .u8 (x 4), .int .u8 (x 5), .int .u8 (x 6), .int .u8 (x 7), .int .u8 (x 8), .int .u8 (x 9), .int .u8 (x 10), .int .u8 (x 11), .int .u8 (x 12), .int .u8 (x 13), .int .u8 (x 14), .int .u8 (x 15), .int .i64 n]] = some (.ret (.int .i64 (chkE 128 [.int .u8 (x 0), .int .u8 (x 1), .int .u8 (x 2), .int .u8 (x 3), .int .u8 (x 4), .int .u8 (x 5), .int .u8 (x 6), .int .u8 (x 7), .int .u8 (x 8), .int .u8 (x 9), .int .u8 (x 10), .int .u8 (x 11), .int .u8 (x 12), .int .u8 (x 13), .int .u8 (x 14), .int .u8 (x 15)] n)), []) := by
  show S58 _ [] encK = _
  have ti : ∀ k n, (AV.int k n).toInt = n := fun _ _ => rfl
  have tb : ∀ b, (AV.bool b).toBool = b := fun _ => rfl
  have si : ∀ k n, sel (some (AEnd.ret (AV.int k n), [])) [] = .int k n := fun _ _ => rfl
  have sb : ∀ b, sel (some (AEnd.ret (AV.bool b), [])) [] = .bool b := fun _ => rfl
  rw [N58]
  unfold chkE
  cases h1 : decide (n < 0)
  · cases h2 : decide (n > 128)
    · have g1 := of_decide_eq_false h1
      have g2 := of_decide_eq_false h2
      have e := R70_is (fl := .any) (b8_16 hx) (show 16 ≤ 1000000 by decide) (i := n) (by omega) (show n ≤ 8 * ((16 : Nat) : Int) by omega)
      simp only [e, shOK_ret, has_bool, sb, tb, aIf_true, aIf_false, cond_false]
      cases lowB [.int .u8 (x 0), .int .u8 (x 1), .int .u8 (x 2), .int .u8 (x 3), .int .u8 (x 4), .int .u8 (x 5), .int .u8 (x 6), .int .u8 (x 7), .int .u8 (x 8), .int .u8 (x 9), .int .u8 (x 10), .int .u8 (x 11), .int .u8 (x 12), .int .u8 (x 13), .int .u8 (x 14), .int .u8 (x 15)] n.toNat <;> rfl
    · rfl
  · rfl

/-- (*ferryman/trie.Table).Put6 -/
noncomputable def T21 : List (FuncId × FSpec) := [(55, S55), (57, S57), (58, V58)]
theorem T21_ok : TabOK Try.prog T21 := TabOK.cons En55 S55_ok (TabOK.cons En57 S57_ok (TabOK.cons En58 V58_ok (TabOK.nil _)))
noncomputable def C21 : Ctx := (ctx E T21 [] [(0, [0, 2, 4]), (1, [0, 2, 4, 8]), (2, [0, 2, 4, 8, 14]), (3, [6, 7]), (4, [6, 7])] [] 28 70)
theorem C21_ok : CtxOK Try.prog C21 := ctx_ok E_ok E_flds mixed T21_ok
noncomputable def S21 : FSpec := inlineK C21 Try.f21
theorem S21_ok : SpecOK Try.prog 21 S21 := inlineK_ok C21_ok Try.func21 (fun _ _ => LoopsOK.none _)
theorem En21 : Enters Try.prog 21 := ⟨_, Try.func21, by decide, rfl⟩

/-- (*ferryman/trie.tree).del -/
noncomputable def T72 : List (FuncId × FSpec) := [(65, S65), (66, S66)]
theorem T72_ok : TabOK Try.prog T72 := TabOK.cons En65 S65_ok (TabOK.cons En66 S66_ok (TabOK.nil _))
noncomputable def C72 : Ctx := (ctx E T72 [] [(0, [0, 1, 2, 3, 4]), (1, [0, 1, 2, 3, 4, 12, 13]), (2, [0, 1, 2, 3, 4, 12, 23]), (3, [12, 38]), (4, [10, 11]), (5, [10, 11]), (6, [0, 2, 3, 4, 14, 15]), (7, [0, 2, 3, 4, 14, 47]), (8, [10, 11]), (9, [0, 2, 3, 4, 14]), (10, [0, 2, 3, 4, 14, 50]), (11, [14, 16]), (12, [14, 16]), (13, [0, 2, 3, 4, 14, 17]), (14, [14, 16]), (15, [14, 16, 104]), (16, [10, 11]), (17, [10, 11])] [] 109 70)
theorem C72_ok : CtxOK Try.prog C72 := ctx_ok E_ok E_flds mixed T72_ok
noncomputable def S72 : FSpec := inlineK C72 Try.f72
theorem S72_ok : SpecOK Try.prog 72 S72 := inlineK_ok C72_ok Try.func72 (fun _ _ => LoopsOK.none _)
theorem En72 : Enters Try.prog 72 := ⟨_, Try.func72, by decide, rfl⟩

/-- (*ferryman/trie.Table).del -/
noncomputable def T59 : List (FuncId × FSpec) := [(72, S72)]
theorem T59_ok : TabOK Try.prog T59 := TabOK.cons En72 S72_ok (TabOK.nil _)
noncomputable def C59 : Ctx := (ctx E T59 [] [(0, [0, 1, 2, 3]), (1, [0, 1, 9, 10]), (2, [0, 10]), (3, [0, 27]), (4, [8]), (5, []), (6, [8])] [] 35 70)
theorem C59_ok : CtxOK Try.prog C59 := ctx_ok E_ok E_flds mixed T59_ok
noncomputable def S59 : FSpec := inlineK C59 Try.f59
theorem S59_ok : SpecOK Try.prog 59 S59 := inlineK_ok C59_ok Try.func59 (fun _ _ => LoopsOK.none _)
theorem En59 : Enters Try.prog 59 := ⟨_, Try.func59, by decide, rfl⟩

/-- (*ferryman/trie.Table).Del4 -/
noncomputable def T22 : List (FuncId × FSpec) := [(55, S55), (56, V56), (59, S59)]
theorem T22_ok : TabOK Try.prog T22 := TabOK.cons En55 S55_ok (TabOK.cons En56 V56_ok (TabOK.cons En59 S59_ok (TabOK.nil _)))
noncomputable def C22 : Ctx := (ctx E T22 [] [(0, [0, 3]), (1, [0, 3, 5]), (2, [0, 3, 5, 11]), (3, [4]), (4, [4])] [] 22 70)
theorem C22_ok : CtxOK Try.prog C22 := ctx_ok E_ok E_flds mixed T22_ok
noncomputable def S22 : FSpec := inlineK C22 Try.f22
theorem S22_ok : SpecOK Try.prog 22 S22 := inlineK_ok C22_ok Try.func22 (fun _ _ => LoopsOK.none _)
theorem En22 : Enters Try.prog 22 := ⟨_, Try.func22, by decide, rfl⟩

/-- (*ferryman/trie.Table).Del6 -/
noncomputable def T24 : List (FuncId × FSpec) := [(55, S55), (58, V58), (59, S59)]
theorem T24_ok : TabOK Try.prog T24 := TabOK.cons En55 S55_ok (TabOK.cons En58 V58_ok (TabOK.cons En59 S59_ok (TabOK.nil _)))
noncomputable def C24 : Ctx := (ctx E T24 [] [(0, [0, 3]), (1, [0, 3, 5]), (2, [0, 3, 5, 11]), (3, [4]), (4, [4])] [] 22 70)
theorem C24_ok : CtxOK Try.prog C24 := ctx_ok E_ok E_flds mixed T24_ok
noncomputable def S24 : FSpec := inlineK C24 Try.f24
theorem S24_ok : SpecOK Try.prog 24 S24 := inlineK_ok C24_ok Try.func24 (fun _ _ => LoopsOK.none _)
theorem En24 : Enters Try.prog 24 := ⟨_, Try.func24, by decide, rfl⟩

/-- (*ferryman/trie.Table).Get4 -/
noncomputable def T26 : List (FuncId × FSpec) := [(55, S55), (56, V56), (60, S60)]
theorem T26_ok : TabOK Try.prog T26 := TabOK.cons En55 S55_ok (TabOK.cons En56 V56_ok (TabOK.cons En60 S60_ok (TabOK.nil _)))
noncomputable def C26 : Ctx := (ctx E T26 [] [(0, [0, 3]), (1, [0, 3, 7]), (2, [0, 3, 7, 15]), (3, [4, 5, 6]), (4, [8, 9]), (5, [4, 5, 6])] [] 30 70)
theorem C26_ok : CtxOK Try.prog C26 := ctx_ok E_ok E_flds mixed T26_ok
noncomputable def S26 : FSpec := inlineK C26 Try.f26
theorem S26_ok : SpecOK Try.prog 26 S26 := inlineK_ok C26_ok Try.func26 (fun _ _ => LoopsOK.none _)
theorem En26 : Enters Try.prog 26 := ⟨_, Try.func26, by decide, rfl⟩

/-- (*ferryman/trie.Table).Get6 -/
noncomputable def T27 : List (FuncId × FSpec) := [(55, S55), (58, V58), (60, S60)]
theorem T27_ok : TabOK Try.prog T27 := TabOK.cons En55 S55_ok (TabOK.cons En58 V58_ok (TabOK.cons En60 S60_ok (TabOK.nil _)))
noncomputable def C27 : Ctx := (ctx E T27 [] [(0, [0, 3]), (1, [0, 3, 7]), (2, [0, 3, 7, 15]), (3, [4, 5, 6]), (4, [8, 9]), (5, [4, 5, 6])] [] 30 70)
theorem C27_ok : CtxOK Try.prog C27 := ctx_ok E_ok E_flds mixed T27_ok
noncomputable def S27 : FSpec := inlineK C27 Try.f27
theorem S27_ok : SpecOK Try.prog 27 S27 := inlineK_ok C27_ok Try.func27 (fun _ _ => LoopsOK.none _)
theorem En27 : Enters Try.prog 27 := ⟨_, Try.func27, by decide, rfl⟩

/-- ferryman/addr.same -/
noncomputable def T74 : List (FuncId × FSpec) := []
theorem T74_ok : TabOK Try.prog T74 := TabOK.nil _
noncomputable def C74 : Ctx := (ctx E T74 [] [(0, [0, 1, 2]), (1, [0, 1, 8, 9]), (2, [0, 1, 8, 9, 10]), (3, [0, 1, 7, 8, 9]), (4, [0, 1, 8, 9, 28]), (5, [6]), (6, [0, 1, 8, 9]), (7, [6]), (1000002, [0, 1, 8, 9])] [] 30 70)
theorem C74_ok : CtxOK Try.prog C74 := ctx_ok E_ok E_flds mixed T74_ok
noncomputable def S74 : FSpec := inlineK C74 Try.f74
theorem S74_ok : SpecOK Try.prog 74 S74 := inlineK_ok C74_ok Try.func74 (fun _ _ => LoopsOK.none _)
theorem En74 : Enters Try.prog 74 := ⟨_, Try.func74, by decide, rfl⟩

/-- ferryman/addr.Cover4 -/
noncomputable def T61 : List (FuncId × FSpec) := [(56, V56), (74, S74)]
theorem T61_ok : TabOK Try.prog T61 := TabOK.cons En56 V56_ok (TabOK.cons En74 S74_ok (TabOK.nil _))
noncomputable def C61 : Ctx := (ctx E T61 [] [(0, [2, 3]), (1, [2, 3, 13]), (2, [4, 5]), (3, [4, 5])] [] 33 70)
theorem C61_ok : CtxOK Try.prog C61 := ctx_ok E_ok E_flds mixed T61_ok
noncomputable def S61 : FSpec := inlineK C61 Try.f61
theorem S61_ok : SpecOK Try.prog 61 S61 := inlineK_ok C61_ok Try.func61 (fun _ _ => LoopsOK.none _)
theorem En61 : Enters Try.prog 61 := ⟨_, Try.func61, by decide, rfl⟩

/-- (*ferryman/trie.Table).Under4 -/
noncomputable def T28 : List (FuncId × FSpec) := [(16, S16), (55, S55), (56, V56), (61, S61)]
theorem T28_ok : TabOK Try.prog T28 := TabOK.cons En16 S16_ok (TabOK.cons En55 S55_ok (TabOK.cons En56 V56_ok (TabOK.cons En61 S61_ok (TabOK.nil _))))
noncomputable def C28 : Ctx := (ctx E T28 [] [(0, [0, 3]), (1, [0, 3, 6]), (2, [0, 3, 6, 17]), (3, [4, 5]), (4, [0, 3, 7]), (5, [3, 7, 20, 21, 22]), (6, [3, 7, 20, 21, 22, 23]), (7, [3, 7, 9, 20, 21, 22]), (8, [3, 7, 9, 10, 20, 21, 22]), (9, [3, 7, 9, 20, 21, 22, 33]), (10, [3, 7, 20, 21, 22]), (11, [3, 7, 20, 21, 22]), (12, [4, 5]), (1000006, [3, 7, 20, 21, 22])] [] 40 70)
theorem C28_ok : CtxOK Try.prog C28 := ctx_ok E_ok E_flds mixed T28_ok
noncomputable def S28 : FSpec := inlineK C28 Try.f28
theorem S28_ok : SpecOK Try.prog 28 S28 := inlineK_ok C28_ok Try.func28 (fun _ _ => LoopsOK.none _)
theorem En28 : Enters Try.prog 28 := ⟨_, Try.func28, by decide, rfl⟩

/-- (*ferryman/trie.Table).Over4 -/
noncomputable def T29 : List (FuncId × FSpec) := [(16, S16), (55, S55), (56, V56), (61, S61)]
theorem T29_ok : TabOK Try.prog T29 := TabOK.cons En16 S16_ok (TabOK.cons En55 S55_ok (TabOK.cons En56 V56_ok (TabOK.cons En61 S61_ok (TabOK.nil _))))
noncomputable def C29 : Ctx := (ctx E T29 [] [(0, [0, 3]), (1, [0, 3, 6]), (2, [0, 3, 6, 17]), (3, [4, 5]), (4, [0, 3, 7]), (5, [3, 7, 20, 21, 22]), (6, [3, 7, 20, 21, 22, 23]), (7, [3, 7, 9, 20, 21, 22]), (8, [3, 7, 9, 10, 20, 21, 22]), (9, [3, 7, 9, 20, 21, 22, 33]), (10, [3, 7, 20, 21, 22]), (11, [3, 7, 20, 21, 22]), (12, [4, 5]), (1000006, [3, 7, 20, 21, 22])] [] 40 70)
theorem C29_ok : CtxOK Try.prog C29 := ctx_ok E_ok E_flds mixed T29_ok
noncomputable def S29 : FSpec := inlineK C29 Try.f29
theorem S29_ok : SpecOK Try.prog 29 S29 := inlineK_ok C29_ok Try.func29 (fun _ _ => LoopsOK.none _)
theorem En29 : Enters Try.prog 29 := ⟨_, Try.func29, by decide, rfl⟩

/-- ferryman/ferrymanlaw12.TrieNobody -/
noncomputable def T7 : List (FuncId × FSpec) := [(10, S10), (14, S14), (15, S15), (16, S16), (17, S17), (20, S20), (21, S21), (22, S22), (24, S24), (26, S26), (27, S27), (28, S28), (29, S29), (30, S30)]
theorem T7_ok : TabOK Try.prog T7 := TabOK.cons En10 S10_ok (TabOK.cons En14 S14_ok (TabOK.cons En15 S15_ok (TabOK.cons En16 S16_ok (TabOK.cons En17 S17_ok (TabOK.cons En20 S20_ok (TabOK.cons En21 S21_ok (TabOK.cons En22 S22_ok (TabOK.cons En24 S24_ok (TabOK.cons En26 S26_ok (TabOK.cons En27 S27_ok (TabOK.cons En28 S28_ok (TabOK.cons En29 S29_ok (TabOK.cons En30 S30_ok (TabOK.nil _))))))))))))))
noncomputable def C7 : Ctx := (ctx E T7 [] [(0, [1]), (1, [1, 3]), (2, [1, 27, 28, 29]), (3, [1, 27, 28, 29, 30]), (4, [1, 5, 27, 28, 29]), (5, [1, 5, 7, 27, 28, 29]), (6, [1, 5, 7, 9, 27, 28, 29]), (7, [1, 5, 7, 9, 12, 27, 28, 29]), (8, [1, 5, 7, 9, 12, 15, 27, 28, 29]), (9, [1, 5, 7, 9, 12, 15, 17, 27, 28, 29]), (10, [1, 5, 7, 9, 12, 15, 17, 19, 27, 28, 29]), (11, [1, 5, 7, 9, 12, 15, 17, 19, 21, 27, 28, 29]), (12, [1, 5, 7, 9, 12, 15, 17, 19, 21, 23, 27, 28, 29]), (13, [1, 27, 28, 29, 145]), (14, [2]), (15, [1, 27, 28, 29]), (16, [2]), (1000003, [1, 27, 28, 29])] [1000014, 1000015, 1000016, 1000017, 1000020, 1000021, 1000022, 1000024, 1000026, 1000027, 1000028, 1000029, 1000030] 148 70)
theorem C7_ok : CtxOK Try.prog C7 := ctx_ok E_ok E_flds mixed T7_ok
noncomputable def S7 : FSpec := inlineK C7 Try.f7
theorem S7_ok : SpecOK Try.prog 7 S7 := inlineK_ok C7_ok Try.func7 (fun _ _ => LoopsOK.none _)
theorem En7 : Enters Try.prog 7 := ⟨_, Try.func7, by decide, rfl⟩

end Go.Proofs.Yteaceebonkpipaa

