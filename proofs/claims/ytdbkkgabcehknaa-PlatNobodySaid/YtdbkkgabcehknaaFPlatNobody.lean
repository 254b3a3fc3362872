import Derived.Test.YtdbkkgabcehknaaA20
import Derived.Test.YtdbkkgabcehknaaRows
import Derived.Test.YtdbkkgabcehknaaPBits
import Derived.Test.YtdbkkgabcehknaaPPlatArg
namespace Go.Proofs.Ytdbkkgabcehknaa
open Go.Abs Go.Pl

set_option maxRecDepth 10000 in
noncomputable def E : Env :=
  Env.mk [none, some (TI.mk (TypeDesc.func (Array.mk []) (Array.mk []) false) 1 8 [AV.nilf] true false [CK.other]), some (TI.mk (TypeDesc.int IntKind.i64) 1 8 [AV.int IntKind.i64 0] true true [CK.int IntKind.i64]), some (TI.mk (TypeDesc.int IntKind.i64) 1 8 [AV.int IntKind.i64 0] true true [CK.int IntKind.i64]), some (TI.mk TypeDesc.bool 1 1 [AV.bool false] true true [CK.bool]), some (TI.mk (TypeDesc.int IntKind.u8) 1 1 [AV.int IntKind.u8 0] true true [CK.int IntKind.u8]), some (TI.mk (TypeDesc.int IntKind.u8) 1 1 [AV.int IntKind.u8 0] true true [CK.int IntKind.u8]), some (TI.mk (TypeDesc.struct (Array.mk [Field.mk "x" 2 0 false "" "runtime" 0, Field.mk "y" 3 1 false "" "runtime" 8, Field.mk "signed" 4 2 false "" "runtime" 16, Field.mk "code" 6 3 false "" "runtime" 17])) 4 24 [AV.int IntKind.i64 0, AV.int IntKind.i64 0, AV.bool false, AV.int IntKind.u8 0] true true [CK.int IntKind.i64, CK.int IntKind.i64, CK.bool, CK.int IntKind.u8]), some (TI.mk (TypeDesc.struct (Array.mk [Field.mk "x" 2 0 false "" "runtime" 0, Field.mk "y" 3 1 false "" "runtime" 8, Field.mk "signed" 4 2 false "" "runtime" 16, Field.mk "code" 6 3 false "" "runtime" 17])) 4 24 [AV.int IntKind.i64 0, AV.int IntKind.i64 0, AV.bool false, AV.int IntKind.u8 0] true true [CK.int IntKind.i64, CK.int IntKind.i64, CK.bool, CK.int IntKind.u8]), some (TI.mk TypeDesc.string 1 16 [AV.str (ByteArray.mk (Array.mk []))] true true [CK.str]), some (TI.mk TypeDesc.string 1 16 [AV.str (ByteArray.mk (Array.mk []))] true true [CK.str]), some (TI.mk TypeDesc.string 1 16 [AV.str (ByteArray.mk (Array.mk []))] true true [CK.str]), some (TI.mk (TypeDesc.int IntKind.u64) 1 8 [AV.int IntKind.u64 0] true true [CK.int IntKind.u64]), some (TI.mk (TypeDesc.struct (Array.mk [Field.mk "msg" 9 0 false "" "runtime" 0, Field.mk "addr" 12 1 false "" "runtime" 16])) 2 24 [AV.str (ByteArray.mk (Array.mk [])), AV.int IntKind.u64 0] false true [CK.str, CK.int IntKind.u64]), some (TI.mk (TypeDesc.struct (Array.mk [Field.mk "msg" 9 0 false "" "runtime" 0, Field.mk "addr" 12 1 false "" "runtime" 16])) 2 24 [AV.str (ByteArray.mk (Array.mk [])), AV.int IntKind.u64 0] false true [CK.str, CK.int IntKind.u64]), some (TI.mk (TypeDesc.pointer 110) 1 8 [AV.nilp] true true [CK.other]), some (TI.mk (TypeDesc.pointer 113) 1 8 [AV.nilp] true true [CK.other]), some (TI.mk (TypeDesc.pointer 123) 1 8 [AV.nilp] true true [CK.other]), some (TI.mk (TypeDesc.struct (Array.mk [Field.mk "typ" 17 0 false "" "internal/runtime/maps" 0])) 1 8 [AV.nilp] false true [CK.other]), some (TI.mk (TypeDesc.struct (Array.mk [Field.mk "typ" 17 0 false "" "internal/runtime/maps" 0])) 1 8 [AV.nilp] false true [CK.other]), some (TI.mk (TypeDesc.interface (Array.mk [])) 1 16 [AV.nili] true true [CK.other]), some (TI.mk (TypeDesc.int IntKind.i32) 1 4 [AV.int IntKind.i32 0] true true [CK.int IntKind.i32]), some (TI.mk (TypeDesc.slice 39) 1 24 [AV.fs 4 [] SF.nil] true false [CK.slice 4]), some (TI.mk (TypeDesc.int IntKind.u16) 1 2 [AV.int IntKind.u16 0] true true [CK.int IntKind.u16]), some (TI.mk (TypeDesc.struct (Array.mk [Field.mk "UDP" 3 0 false "" "" 0, Field.mk "ICMP" 3 1 false "" "" 8, Field.mk "Init" 3 2 false "" "" 16, Field.mk "Open" 3 3 false "" "" 24, Field.mk "Trans" 3 4 false "" "" 32])) 5 40 [AV.int IntKind.i64 0, AV.int IntKind.i64 0, AV.int IntKind.i64 0, AV.int IntKind.i64 0, AV.int IntKind.i64 0] true true [CK.int IntKind.i64, CK.int IntKind.i64, CK.int IntKind.i64, CK.int IntKind.i64, CK.int IntKind.i64]), some (TI.mk (TypeDesc.struct (Array.mk [Field.mk "UDP" 3 0 false "" "" 0, Field.mk "ICMP" 3 1 false "" "" 8, Field.mk "Init" 3 2 false "" "" 16, Field.mk "Open" 3 3 false "" "" 24, Field.mk "Trans" 3 4 false "" "" 32])) 5 40 [AV.int IntKind.i64 0, AV.int IntKind.i64 0, AV.int IntKind.i64 0, AV.int IntKind.i64 0, AV.int IntKind.i64 0] true true [CK.int IntKind.i64, CK.int IntKind.i64, CK.int IntKind.i64, CK.int IntKind.i64, CK.int IntKind.i64]), some (TI.mk (TypeDesc.struct (Array.mk [Field.mk "Pool" 22 0 false "" "" 0, Field.mk "From" 23 1 false "" "" 24, Field.mk "To" 23 2 false "" "" 26, Field.mk "Lives" 25 3 false "" "" 32, Field.mk "Bindings" 3 8 false "" "" 72, Field.mk "Sessions" 3 9 false "" "" 80, Field.mk "Filter" 4 10 false "" "" 88])) 11 96 [AV.fs 4 [] SF.nil, AV.int IntKind.u16 0, AV.int IntKind.u16 0, AV.int IntKind.i64 0, AV.int IntKind.i64 0, AV.int IntKind.i64 0, AV.int IntKind.i64 0, AV.int IntKind.i64 0, AV.int IntKind.i64 0, AV.int IntKind.i64 0, AV.bool false] true false [CK.slice 4, CK.int IntKind.u16, CK.int IntKind.u16, CK.int IntKind.i64, CK.int IntKind.i64, CK.int IntKind.i64, CK.int IntKind.i64, CK.int IntKind.i64, CK.int IntKind.i64, CK.int IntKind.i64, CK.bool]), some (TI.mk (TypeDesc.struct (Array.mk [Field.mk "Pool" 22 0 false "" "" 0, Field.mk "From" 23 1 false "" "" 24, Field.mk "To" 23 2 false "" "" 26, Field.mk "Lives" 25 3 false "" "" 32, Field.mk "Bindings" 3 8 false "" "" 72, Field.mk "Sessions" 3 9 false "" "" 80, Field.mk "Filter" 4 10 false "" "" 88])) 11 96 [AV.fs 4 [] SF.nil, AV.int IntKind.u16 0, AV.int IntKind.u16 0, AV.int IntKind.i64 0, AV.int IntKind.i64 0, AV.int IntKind.i64 0, AV.int IntKind.i64 0, AV.int IntKind.i64 0, AV.int IntKind.i64 0, AV.int IntKind.i64 0, AV.bool false] true false [CK.slice 4, CK.int IntKind.u16, CK.int IntKind.u16, CK.int IntKind.i64, CK.int IntKind.i64, CK.int IntKind.i64, CK.int IntKind.i64, CK.int IntKind.i64, CK.int IntKind.i64, CK.int IntKind.i64, CK.bool]), some (TI.mk (TypeDesc.slice 45) 1 24 [AV.fs 37 [] SF.nil] true false [CK.slice 37]), some (TI.mk (TypeDesc.pointer 63) 1 8 [AV.nilp] true true [CK.other]), some (TI.mk (TypeDesc.int IntKind.i64) 1 8 [AV.int IntKind.i64 0] true true [CK.int IntKind.i64]), none, some (TI.mk (TypeDesc.func (Array.mk [27]) (Array.mk [29, 30]) false) 1 8 [AV.nilf] true false [CK.other]), some (TI.mk (TypeDesc.func (Array.mk []) (Array.mk [4]) false) 1 8 [AV.nilf] true false [CK.other]), some (TI.mk (TypeDesc.slice 50) 1 24 [AV.fs 23 [] SF.nil] true false [CK.slice 23]), some (TI.mk (TypeDesc.func (Array.mk [3, 3]) (Array.mk [3]) false) 1 8 [AV.nilf] true false [CK.other]), some (TI.mk (TypeDesc.array 16 5) 16 16 [AV.int IntKind.u8 0, AV.int IntKind.u8 0, AV.int IntKind.u8 0, AV.int IntKind.u8 0, AV.int IntKind.u8 0, AV.int IntKind.u8 0, AV.int IntKind.u8 0, AV.int IntKind.u8 0, AV.int IntKind.u8 0, AV.int IntKind.u8 0, AV.int IntKind.u8 0, AV.int IntKind.u8 0, AV.int IntKind.u8 0, AV.int IntKind.u8 0, AV.int IntKind.u8 0, AV.int IntKind.u8 0] true true [CK.int IntKind.u8, CK.int IntKind.u8, CK.int IntKind.u8, CK.int IntKind.u8, CK.int IntKind.u8, CK.int IntKind.u8, CK.int IntKind.u8, CK.int IntKind.u8, CK.int IntKind.u8, CK.int IntKind.u8, CK.int IntKind.u8, CK.int IntKind.u8, CK.int IntKind.u8, CK.int IntKind.u8, CK.int IntKind.u8, CK.int IntKind.u8]), some (TI.mk (TypeDesc.array 16 5) 16 16 [AV.int IntKind.u8 0, AV.int IntKind.u8 0, AV.int IntKind.u8 0, AV.int IntKind.u8 0, AV.int IntKind.u8 0, AV.int IntKind.u8 0, AV.int IntKind.u8 0, AV.int IntKind.u8 0, AV.int IntKind.u8 0, AV.int IntKind.u8 0, AV.int IntKind.u8 0, AV.int IntKind.u8 0, AV.int IntKind.u8 0, AV.int IntKind.u8 0, AV.int IntKind.u8 0, AV.int IntKind.u8 0] true true [CK.int IntKind.u8, CK.int IntKind.u8, CK.int IntKind.u8, CK.int IntKind.u8, CK.int IntKind.u8, CK.int IntKind.u8, CK.int IntKind.u8, CK.int IntKind.u8, CK.int IntKind.u8, CK.int IntKind.u8, CK.int IntKind.u8, CK.int IntKind.u8, CK.int IntKind.u8, CK.int IntKind.u8, CK.int IntKind.u8, CK.int IntKind.u8]), some (TI.mk (TypeDesc.array 4 5) 4 4 [AV.int IntKind.u8 0, AV.int IntKind.u8 0, AV.int IntKind.u8 0, AV.int IntKind.u8 0] true true [CK.int IntKind.u8, CK.int IntKind.u8, CK.int IntKind.u8, CK.int IntKind.u8]), some (TI.mk (TypeDesc.array 4 5) 4 4 [AV.int IntKind.u8 0, AV.int IntKind.u8 0, AV.int IntKind.u8 0, AV.int IntKind.u8 0] true true [CK.int IntKind.u8, CK.int IntKind.u8, CK.int IntKind.u8, CK.int IntKind.u8]), some (TI.mk (TypeDesc.struct (Array.mk [Field.mk "Proto" 5 0 false "" "" 0, Field.mk "Src" 37 1 false "" "" 1, Field.mk "SPort" 23 17 false "" "" 18, Field.mk "Dst" 39 18 false "" "" 20, Field.mk "DPort" 23 22 false "" "" 24])) 23 26 [AV.int IntKind.u8 0, AV.int IntKind.u8 0, AV.int IntKind.u8 0, AV.int IntKind.u8 0, AV.int IntKind.u8 0, AV.int IntKind.u8 0, AV.int IntKind.u8 0, AV.int IntKind.u8 0, AV.int IntKind.u8 0, AV.int IntKind.u8 0, AV.int IntKind.u8 0, AV.int IntKind.u8 0, AV.int IntKind.u8 0, AV.int IntKind.u8 0, AV.int IntKind.u8 0, AV.int IntKind.u8 0, AV.int IntKind.u8 0, AV.int IntKind.u16 0, AV.int IntKind.u8 0, AV.int IntKind.u8 0, AV.int IntKind.u8 0, AV.int IntKind.u8 0, AV.int IntKind.u16 0] true true [CK.int IntKind.u8, CK.int IntKind.u8, CK.int IntKind.u8, CK.int IntKind.u8, CK.int IntKind.u8, CK.int IntKind.u8, CK.int IntKind.u8, CK.int IntKind.u8, CK.int IntKind.u8, CK.int IntKind.u8, CK.int IntKind.u8, CK.int IntKind.u8, CK.int IntKind.u8, CK.int IntKind.u8, CK.int IntKind.u8, CK.int IntKind.u8, CK.int IntKind.u8, CK.int IntKind.u16, CK.int IntKind.u8, CK.int IntKind.u8, CK.int IntKind.u8, CK.int IntKind.u8, CK.int IntKind.u16]), some (TI.mk (TypeDesc.struct (Array.mk [Field.mk "Proto" 5 0 false "" "" 0, Field.mk "Src" 37 1 false "" "" 1, Field.mk "SPort" 23 17 false "" "" 18, Field.mk "Dst" 39 18 false "" "" 20, Field.mk "DPort" 23 22 false "" "" 24])) 23 26 [AV.int IntKind.u8 0, AV.int IntKind.u8 0, AV.int IntKind.u8 0, AV.int IntKind.u8 0, AV.int IntKind.u8 0, AV.int IntKind.u8 0, AV.int IntKind.u8 0, AV.int IntKind.u8 0, AV.int IntKind.u8 0, AV.int IntKind.u8 0, AV.int IntKind.u8 0, AV.int IntKind.u8 0, AV.int IntKind.u8 0, AV.int IntKind.u8 0, AV.int IntKind.u8 0, AV.int IntKind.u8 0, AV.int IntKind.u8 0, AV.int IntKind.u16 0, AV.int IntKind.u8 0, AV.int IntKind.u8 0, AV.int IntKind.u8 0, AV.int IntKind.u8 0, AV.int IntKind.u16 0] true true [CK.int IntKind.u8, CK.int IntKind.u8, CK.int IntKind.u8, CK.int IntKind.u8, CK.int IntKind.u8, CK.int IntKind.u8, CK.int IntKind.u8, CK.int IntKind.u8, CK.int IntKind.u8, CK.int IntKind.u8, CK.int IntKind.u8, CK.int IntKind.u8, CK.int IntKind.u8, CK.int IntKind.u8, CK.int IntKind.u8, CK.int IntKind.u8, CK.int IntKind.u8, CK.int IntKind.u16, CK.int IntKind.u8, CK.int IntKind.u8, CK.int IntKind.u8, CK.int IntKind.u8, CK.int IntKind.u16]), some (TI.mk (TypeDesc.struct (Array.mk [Field.mk "Proto" 5 0 false "" "" 0, Field.mk "Src" 39 1 false "" "" 1, Field.mk "SPort" 23 5 false "" "" 6, Field.mk "Dst" 39 6 false "" "" 8, Field.mk "DPort" 23 10 false "" "" 12])) 11 14 [AV.int IntKind.u8 0, AV.int IntKind.u8 0, AV.int IntKind.u8 0, AV.int IntKind.u8 0, AV.int IntKind.u8 0, AV.int IntKind.u16 0, AV.int IntKind.u8 0, AV.int IntKind.u8 0, AV.int IntKind.u8 0, AV.int IntKind.u8 0, AV.int IntKind.u16 0] true true [CK.int IntKind.u8, CK.int IntKind.u8, CK.int IntKind.u8, CK.int IntKind.u8, CK.int IntKind.u8, CK.int IntKind.u16, CK.int IntKind.u8, CK.int IntKind.u8, CK.int IntKind.u8, CK.int IntKind.u8, CK.int IntKind.u16]), some (TI.mk (TypeDesc.struct (Array.mk [Field.mk "Proto" 5 0 false "" "" 0, Field.mk "Src" 39 1 false "" "" 1, Field.mk "SPort" 23 5 false "" "" 6, Field.mk "Dst" 39 6 false "" "" 8, Field.mk "DPort" 23 10 false "" "" 12])) 11 14 [AV.int IntKind.u8 0, AV.int IntKind.u8 0, AV.int IntKind.u8 0, AV.int IntKind.u8 0, AV.int IntKind.u8 0, AV.int IntKind.u16 0, AV.int IntKind.u8 0, AV.int IntKind.u8 0, AV.int IntKind.u8 0, AV.int IntKind.u8 0, AV.int IntKind.u16 0] true true [CK.int IntKind.u8, CK.int IntKind.u8, CK.int IntKind.u8, CK.int IntKind.u8, CK.int IntKind.u8, CK.int IntKind.u16, CK.int IntKind.u8, CK.int IntKind.u8, CK.int IntKind.u8, CK.int IntKind.u8, CK.int IntKind.u16]), some (TI.mk (TypeDesc.struct (Array.mk [Field.mk "Kind" 3 0 false "" "" 0, Field.mk "At" 3 1 false "" "" 8, Field.mk "Out" 41 2 false "" "" 16, Field.mk "In" 43 25 false "" "" 42, Field.mk "Flags" 5 36 false "" "" 56])) 37 64 [AV.int IntKind.i64 0, AV.int IntKind.i64 0, AV.int IntKind.u8 0, AV.int IntKind.u8 0, AV.int IntKind.u8 0, AV.int IntKind.u8 0, AV.int IntKind.u8 0, AV.int IntKind.u8 0, AV.int IntKind.u8 0, AV.int IntKind.u8 0, AV.int IntKind.u8 0, AV.int IntKind.u8 0, AV.int IntKind.u8 0, AV.int IntKind.u8 0, AV.int IntKind.u8 0, AV.int IntKind.u8 0, AV.int IntKind.u8 0, AV.int IntKind.u8 0, AV.int IntKind.u8 0, AV.int IntKind.u16 0, AV.int IntKind.u8 0, AV.int IntKind.u8 0, AV.int IntKind.u8 0, AV.int IntKind.u8 0, AV.int IntKind.u16 0, AV.int IntKind.u8 0, AV.int IntKind.u8 0, AV.int IntKind.u8 0, AV.int IntKind.u8 0, AV.int IntKind.u8 0, AV.int IntKind.u16 0, AV.int IntKind.u8 0, AV.int IntKind.u8 0, AV.int IntKind.u8 0, AV.int IntKind.u8 0, AV.int IntKind.u16 0, AV.int IntKind.u8 0] true true [CK.int IntKind.i64, CK.int IntKind.i64, CK.int IntKind.u8, CK.int IntKind.u8, CK.int IntKind.u8, CK.int IntKind.u8, CK.int IntKind.u8, CK.int IntKind.u8, CK.int IntKind.u8, CK.int IntKind.u8, CK.int IntKind.u8, CK.int IntKind.u8, CK.int IntKind.u8, CK.int IntKind.u8, CK.int IntKind.u8, CK.int IntKind.u8, CK.int IntKind.u8, CK.int IntKind.u8, CK.int IntKind.u8, CK.int IntKind.u16, CK.int IntKind.u8, CK.int IntKind.u8, CK.int IntKind.u8, CK.int IntKind.u8, CK.int IntKind.u16, CK.int IntKind.u8, CK.int IntKind.u8, CK.int IntKind.u8, CK.int IntKind.u8, CK.int IntKind.u8, CK.int IntKind.u16, CK.int IntKind.u8, CK.int IntKind.u8, CK.int IntKind.u8, CK.int IntKind.u8, CK.int IntKind.u16, CK.int IntKind.u8]), some (TI.mk (TypeDesc.struct (Array.mk [Field.mk "Kind" 3 0 false "" "" 0, Field.mk "At" 3 1 false "" "" 8, Field.mk "Out" 41 2 false "" "" 16, Field.mk "In" 43 25 false "" "" 42, Field.mk "Flags" 5 36 false "" "" 56])) 37 64 [AV.int IntKind.i64 0, AV.int IntKind.i64 0, AV.int IntKind.u8 0, AV.int IntKind.u8 0, AV.int IntKind.u8 0, AV.int IntKind.u8 0, AV.int IntKind.u8 0, AV.int IntKind.u8 0, AV.int IntKind.u8 0, AV.int IntKind.u8 0, AV.int IntKind.u8 0, AV.int IntKind.u8 0, AV.int IntKind.u8 0, AV.int IntKind.u8 0, AV.int IntKind.u8 0, AV.int IntKind.u8 0, AV.int IntKind.u8 0, AV.int IntKind.u8 0, AV.int IntKind.u8 0, AV.int IntKind.u16 0, AV.int IntKind.u8 0, AV.int IntKind.u8 0, AV.int IntKind.u8 0, AV.int IntKind.u8 0, AV.int IntKind.u16 0, AV.int IntKind.u8 0, AV.int IntKind.u8 0, AV.int IntKind.u8 0, AV.int IntKind.u8 0, AV.int IntKind.u8 0, AV.int IntKind.u16 0, AV.int IntKind.u8 0, AV.int IntKind.u8 0, AV.int IntKind.u8 0, AV.int IntKind.u8 0, AV.int IntKind.u16 0, AV.int IntKind.u8 0] true true [CK.int IntKind.i64, CK.int IntKind.i64, CK.int IntKind.u8, CK.int IntKind.u8, CK.int IntKind.u8, CK.int IntKind.u8, CK.int IntKind.u8, CK.int IntKind.u8, CK.int IntKind.u8, CK.int IntKind.u8, CK.int IntKind.u8, CK.int IntKind.u8, CK.int IntKind.u8, CK.int IntKind.u8, CK.int IntKind.u8, CK.int IntKind.u8, CK.int IntKind.u8, CK.int IntKind.u8, CK.int IntKind.u8, CK.int IntKind.u16, CK.int IntKind.u8, CK.int IntKind.u8, CK.int IntKind.u8, CK.int IntKind.u8, CK.int IntKind.u16, CK.int IntKind.u8, CK.int IntKind.u8, CK.int IntKind.u8, CK.int IntKind.u8, CK.int IntKind.u8, CK.int IntKind.u16, CK.int IntKind.u8, CK.int IntKind.u8, CK.int IntKind.u8, CK.int IntKind.u8, CK.int IntKind.u16, CK.int IntKind.u8]), none, some (TI.mk (TypeDesc.func (Array.mk [3, 41, 5]) (Array.mk [39, 23, 30]) false) 1 8 [AV.nilf] true false [CK.other]), some (TI.mk (TypeDesc.func (Array.mk [5]) (Array.mk [5]) false) 1 8 [AV.nilf] true false [CK.other]), some (TI.mk (TypeDesc.struct (Array.mk [Field.mk "Proto" 5 0 false "" "" 0, Field.mk "In" 37 1 false "" "" 1, Field.mk "IPort" 23 17 false "" "" 18, Field.mk "Out" 39 18 false "" "" 20, Field.mk "OPort" 23 22 false "" "" 24])) 23 26 [AV.int IntKind.u8 0, AV.int IntKind.u8 0, AV.int IntKind.u8 0, AV.int IntKind.u8 0, AV.int IntKind.u8 0, AV.int IntKind.u8 0, AV.int IntKind.u8 0, AV.int IntKind.u8 0, AV.int IntKind.u8 0, AV.int IntKind.u8 0, AV.int IntKind.u8 0, AV.int IntKind.u8 0, AV.int IntKind.u8 0, AV.int IntKind.u8 0, AV.int IntKind.u8 0, AV.int IntKind.u8 0, AV.int IntKind.u8 0, AV.int IntKind.u16 0, AV.int IntKind.u8 0, AV.int IntKind.u8 0, AV.int IntKind.u8 0, AV.int IntKind.u8 0, AV.int IntKind.u16 0] true true [CK.int IntKind.u8, CK.int IntKind.u8, CK.int IntKind.u8, CK.int IntKind.u8, CK.int IntKind.u8, CK.int IntKind.u8, CK.int IntKind.u8, CK.int IntKind.u8, CK.int IntKind.u8, CK.int IntKind.u8, CK.int IntKind.u8, CK.int IntKind.u8, CK.int IntKind.u8, CK.int IntKind.u8, CK.int IntKind.u8, CK.int IntKind.u8, CK.int IntKind.u8, CK.int IntKind.u16, CK.int IntKind.u8, CK.int IntKind.u8, CK.int IntKind.u8, CK.int IntKind.u8, CK.int IntKind.u16]), some (TI.mk (TypeDesc.struct (Array.mk [Field.mk "Proto" 5 0 false "" "" 0, Field.mk "In" 37 1 false "" "" 1, Field.mk "IPort" 23 17 false "" "" 18, Field.mk "Out" 39 18 false "" "" 20, Field.mk "OPort" 23 22 false "" "" 24])) 23 26 [AV.int IntKind.u8 0, AV.int IntKind.u8 0, AV.int IntKind.u8 0, AV.int IntKind.u8 0, AV.int IntKind.u8 0, AV.int IntKind.u8 0, AV.int IntKind.u8 0, AV.int IntKind.u8 0, AV.int IntKind.u8 0, AV.int IntKind.u8 0, AV.int IntKind.u8 0, AV.int IntKind.u8 0, AV.int IntKind.u8 0, AV.int IntKind.u8 0, AV.int IntKind.u8 0, AV.int IntKind.u8 0, AV.int IntKind.u8 0, AV.int IntKind.u16 0, AV.int IntKind.u8 0, AV.int IntKind.u8 0, AV.int IntKind.u8 0, AV.int IntKind.u8 0, AV.int IntKind.u16 0] true true [CK.int IntKind.u8, CK.int IntKind.u8, CK.int IntKind.u8, CK.int IntKind.u8, CK.int IntKind.u8, CK.int IntKind.u8, CK.int IntKind.u8, CK.int IntKind.u8, CK.int IntKind.u8, CK.int IntKind.u8, CK.int IntKind.u8, CK.int IntKind.u8, CK.int IntKind.u8, CK.int IntKind.u8, CK.int IntKind.u8, CK.int IntKind.u8, CK.int IntKind.u8, CK.int IntKind.u16, CK.int IntKind.u8, CK.int IntKind.u8, CK.int IntKind.u8, CK.int IntKind.u8, CK.int IntKind.u16]), none, some (TI.mk (TypeDesc.func (Array.mk [3, 43, 5]) (Array.mk [37, 23, 30]) false) 1 8 [AV.nilf] true false [CK.other]), some (TI.mk (TypeDesc.func (Array.mk [29, 45, 3]) (Array.mk []) false) 1 8 [AV.nilf] true false [CK.other]), some (TI.mk (TypeDesc.func (Array.mk [27, 28]) (Array.mk [4]) false) 1 8 [AV.nilf] true false [CK.other]), some (TI.mk (TypeDesc.func (Array.mk []) (Array.mk [34]) false) 1 8 [AV.nilf] true false [CK.other]), some (TI.mk (TypeDesc.slice 86) 1 24 [AV.fs 30 [] SF.nil] true false [CK.slice 30]), some (TI.mk (TypeDesc.func (Array.mk []) (Array.mk [56]) false) 1 8 [AV.nilf] true false [CK.other]), none, some (TI.mk (TypeDesc.func (Array.mk [3, 5, 37, 23]) (Array.mk [39, 23, 4]) false) 1 8 [AV.nilf] true false [CK.other]), none, some (TI.mk (TypeDesc.func (Array.mk [3, 5, 39, 23]) (Array.mk [37, 23, 4]) false) 1 8 [AV.nilf] true false [CK.other]), some (TI.mk (TypeDesc.struct (Array.mk [Field.mk "c" 27 0 false "" "ferryman/plat" 0, Field.mk "now" 3 11 false "" "ferryman/plat" 96, Field.mk "bindings" 34 12 false "" "ferryman/plat" 104, Field.mk "sessions" 56 13 false "" "ferryman/plat" 128])) 14 152 [AV.fs 4 [] SF.nil, AV.int IntKind.u16 0, AV.int IntKind.u16 0, AV.int IntKind.i64 0, AV.int IntKind.i64 0, AV.int IntKind.i64 0, AV.int IntKind.i64 0, AV.int IntKind.i64 0, AV.int IntKind.i64 0, AV.int IntKind.i64 0, AV.bool false, AV.int IntKind.i64 0, AV.fs 23 [] SF.nil, AV.fs 30 [] SF.nil] true false [CK.slice 4, CK.int IntKind.u16, CK.int IntKind.u16, CK.int IntKind.i64, CK.int IntKind.i64, CK.int IntKind.i64, CK.int IntKind.i64, CK.int IntKind.i64, CK.int IntKind.i64, CK.int IntKind.i64, CK.bool, CK.int IntKind.i64, CK.slice 23, CK.slice 30]), some (TI.mk (TypeDesc.struct (Array.mk [Field.mk "c" 27 0 false "" "ferryman/plat" 0, Field.mk "now" 3 11 false "" "ferryman/plat" 96, Field.mk "bindings" 34 12 false "" "ferryman/plat" 104, Field.mk "sessions" 56 13 false "" "ferryman/plat" 128])) 14 152 [AV.fs 4 [] SF.nil, AV.int IntKind.u16 0, AV.int IntKind.u16 0, AV.int IntKind.i64 0, AV.int IntKind.i64 0, AV.int IntKind.i64 0, AV.int IntKind.i64 0, AV.int IntKind.i64 0, AV.int IntKind.i64 0, AV.int IntKind.i64 0, AV.bool false, AV.int IntKind.i64 0, AV.fs 23 [] SF.nil, AV.fs 30 [] SF.nil] true false [CK.slice 4, CK.int IntKind.u16, CK.int IntKind.u16, CK.int IntKind.i64, CK.int IntKind.i64, CK.int IntKind.i64, CK.int IntKind.i64, CK.int IntKind.i64, CK.int IntKind.i64, CK.int IntKind.i64, CK.bool, CK.int IntKind.i64, CK.slice 23, CK.slice 30]), some (TI.mk (TypeDesc.slice 29) 1 24 [AV.fs 1 [] SF.nil] true false [CK.slice 1]), none, some (TI.mk (TypeDesc.func (Array.mk [3]) (Array.mk [3, 30]) false) 1 8 [AV.nilf] true false [CK.other]), none, some (TI.mk (TypeDesc.func (Array.mk []) (Array.mk [3, 4]) false) 1 8 [AV.nilf] true false [CK.other]), some (TI.mk (TypeDesc.func (Array.mk [3, 41, 43]) (Array.mk [4]) false) 1 8 [AV.nilf] true false [CK.other]), some (TI.mk (TypeDesc.func (Array.mk [25]) (Array.mk [30]) false) 1 8 [AV.nilf] true false [CK.other]), some (TI.mk (TypeDesc.func (Array.mk [22, 39]) (Array.mk [4]) false) 1 8 [AV.nilf] true false [CK.other]), some (TI.mk (TypeDesc.func (Array.mk [22]) (Array.mk [22]) false) 1 8 [AV.nilf] true false [CK.other]), some (TI.mk (TypeDesc.func (Array.mk []) (Array.mk [27]) false) 1 8 [AV.nilf] true false [CK.other]), some (TI.mk (TypeDesc.func (Array.mk [3]) (Array.mk [30]) false) 1 8 [AV.nilf] true false [CK.other]), none, some (TI.mk (TypeDesc.func (Array.mk [5, 37, 23]) (Array.mk [50, 4]) false) 1 8 [AV.nilf] true false [CK.other]), some (TI.mk (TypeDesc.pointer 86) 1 8 [AV.nilp] true true [CK.other]), some (TI.mk (TypeDesc.func (Array.mk [50, 39, 23]) (Array.mk [77]) false) 1 8 [AV.nilf] true false [CK.other]), some (TI.mk (TypeDesc.func (Array.mk [77, 4, 5]) (Array.mk []) false) 1 8 [AV.nilf] true false [CK.other]), some (TI.mk (TypeDesc.int IntKind.i64) 1 8 [AV.int IntKind.i64 0] true true [CK.int IntKind.i64]), none, some (TI.mk (TypeDesc.func (Array.mk [5, 5]) (Array.mk [80, 30]) false) 1 8 [AV.nilf] true false [CK.other]), some (TI.mk (TypeDesc.func (Array.mk [5, 23]) (Array.mk [39, 23, 4]) false) 1 8 [AV.nilf] true false [CK.other]), some (TI.mk (TypeDesc.func (Array.mk [80]) (Array.mk [3]) false) 1 8 [AV.nilf] true false [CK.other]), some (TI.mk (TypeDesc.struct (Array.mk [Field.mk "Binding" 50 0 true "" "" 0, Field.mk "Peer" 39 23 false "" "" 26, Field.mk "PPort" 23 27 false "" "" 30, Field.mk "State" 80 28 false "" "" 32, Field.mk "Until" 3 29 false "" "" 40])) 30 48 [AV.int IntKind.u8 0, AV.int IntKind.u8 0, AV.int IntKind.u8 0, AV.int IntKind.u8 0, AV.int IntKind.u8 0, AV.int IntKind.u8 0, AV.int IntKind.u8 0, AV.int IntKind.u8 0, AV.int IntKind.u8 0, AV.int IntKind.u8 0, AV.int IntKind.u8 0, AV.int IntKind.u8 0, AV.int IntKind.u8 0, AV.int IntKind.u8 0, AV.int IntKind.u8 0, AV.int IntKind.u8 0, AV.int IntKind.u8 0, AV.int IntKind.u16 0, AV.int IntKind.u8 0, AV.int IntKind.u8 0, AV.int IntKind.u8 0, AV.int IntKind.u8 0, AV.int IntKind.u16 0, AV.int IntKind.u8 0, AV.int IntKind.u8 0, AV.int IntKind.u8 0, AV.int IntKind.u8 0, AV.int IntKind.u16 0, AV.int IntKind.i64 0, AV.int IntKind.i64 0] true true [CK.int IntKind.u8, CK.int IntKind.u8, CK.int IntKind.u8, CK.int IntKind.u8, CK.int IntKind.u8, CK.int IntKind.u8, CK.int IntKind.u8, CK.int IntKind.u8, CK.int IntKind.u8, CK.int IntKind.u8, CK.int IntKind.u8, CK.int IntKind.u8, CK.int IntKind.u8, CK.int IntKind.u8, CK.int IntKind.u8, CK.int IntKind.u8, CK.int IntKind.u8, CK.int IntKind.u16, CK.int IntKind.u8, CK.int IntKind.u8, CK.int IntKind.u8, CK.int IntKind.u8, CK.int IntKind.u16, CK.int IntKind.u8, CK.int IntKind.u8, CK.int IntKind.u8, CK.int IntKind.u8, CK.int IntKind.u16, CK.int IntKind.i64, CK.int IntKind.i64]), some (TI.mk (TypeDesc.struct (Array.mk [Field.mk "Binding" 50 0 true "" "" 0, Field.mk "Peer" 39 23 false "" "" 26, Field.mk "PPort" 23 27 false "" "" 30, Field.mk "State" 80 28 false "" "" 32, Field.mk "Until" 3 29 false "" "" 40])) 30 48 [AV.int IntKind.u8 0, AV.int IntKind.u8 0, AV.int IntKind.u8 0, AV.int IntKind.u8 0, AV.int IntKind.u8 0, AV.int IntKind.u8 0, AV.int IntKind.u8 0, AV.int IntKind.u8 0, AV.int IntKind.u8 0, AV.int IntKind.u8 0, AV.int IntKind.u8 0, AV.int IntKind.u8 0, AV.int IntKind.u8 0, AV.int IntKind.u8 0, AV.int IntKind.u8 0, AV.int IntKind.u8 0, AV.int IntKind.u8 0, AV.int IntKind.u16 0, AV.int IntKind.u8 0, AV.int IntKind.u8 0, AV.int IntKind.u8 0, AV.int IntKind.u8 0, AV.int IntKind.u16 0, AV.int IntKind.u8 0, AV.int IntKind.u8 0, AV.int IntKind.u8 0, AV.int IntKind.u8 0, AV.int IntKind.u16 0, AV.int IntKind.i64 0, AV.int IntKind.i64 0] true true [CK.int IntKind.u8, CK.int IntKind.u8, CK.int IntKind.u8, CK.int IntKind.u8, CK.int IntKind.u8, CK.int IntKind.u8, CK.int IntKind.u8, CK.int IntKind.u8, CK.int IntKind.u8, CK.int IntKind.u8, CK.int IntKind.u8, CK.int IntKind.u8, CK.int IntKind.u8, CK.int IntKind.u8, CK.int IntKind.u8, CK.int IntKind.u8, CK.int IntKind.u8, CK.int IntKind.u16, CK.int IntKind.u8, CK.int IntKind.u8, CK.int IntKind.u8, CK.int IntKind.u8, CK.int IntKind.u16, CK.int IntKind.u8, CK.int IntKind.u8, CK.int IntKind.u8, CK.int IntKind.u8, CK.int IntKind.u16, CK.int IntKind.i64, CK.int IntKind.i64]), some (TI.mk (TypeDesc.func (Array.mk [5, 39, 23]) (Array.mk [50, 4]) false) 1 8 [AV.nilf] true false [CK.other]), some (TI.mk (TypeDesc.func (Array.mk [56, 89]) (Array.mk [4]) false) 1 8 [AV.nilf] true false [CK.other]), some (TI.mk (TypeDesc.func (Array.mk [86]) (Array.mk [4]) false) 1 8 [AV.nilf] true false [CK.other]), some (TI.mk (TypeDesc.func (Array.mk [34]) (Array.mk [34]) false) 1 8 [AV.nilf] true false [CK.other]), some (TI.mk (TypeDesc.func (Array.mk [56]) (Array.mk [56]) false) 1 8 [AV.nilf] true false [CK.other]), some (TI.mk (TypeDesc.func (Array.mk [50, 3]) (Array.mk [4]) false) 1 8 [AV.nilf] true false [CK.other]), some (TI.mk (TypeDesc.array 5 3) 5 40 [AV.int IntKind.i64 0, AV.int IntKind.i64 0, AV.int IntKind.i64 0, AV.int IntKind.i64 0, AV.int IntKind.i64 0] true true [CK.int IntKind.i64, CK.int IntKind.i64, CK.int IntKind.i64, CK.int IntKind.i64, CK.int IntKind.i64]), some (TI.mk (TypeDesc.func (Array.mk [22, 39]) (Array.mk [3]) false) 1 8 [AV.nilf] true false [CK.other]), some (TI.mk (TypeDesc.func (Array.mk [56, 89]) (Array.mk [56]) false) 1 8 [AV.nilf] true false [CK.other]), some (TI.mk (TypeDesc.func (Array.mk [34, 97]) (Array.mk [34]) false) 1 8 [AV.nilf] true false [CK.other]), some (TI.mk (TypeDesc.func (Array.mk [50]) (Array.mk [4]) false) 1 8 [AV.nilf] true false [CK.other]), some (TI.mk (TypeDesc.func (Array.mk [34, 97]) (Array.mk [50, 4]) false) 1 8 [AV.nilf] true false [CK.other]), none, some (TI.mk (TypeDesc.func (Array.mk [80, 4, 5]) (Array.mk [80, 4]) false) 1 8 [AV.nilf] true false [CK.other]), some (TI.mk (TypeDesc.func (Array.mk [5]) (Array.mk [4]) false) 1 8 [AV.nilf] true false [CK.other]), some (TI.mk (TypeDesc.map 50 3) 1 8 [AV.nilm] true false [CK.other]), some (TI.mk (TypeDesc.func (Array.mk [39, 23]) (Array.mk [4]) false) 1 8 [AV.nilf] true false [CK.other]), some (TI.mk (TypeDesc.func (Array.mk [25, 80]) (Array.mk [3, 30]) false) 1 8 [AV.nilf] true false [CK.other]), some (TI.mk (TypeDesc.func (Array.mk [56, 89]) (Array.mk [3]) false) 1 8 [AV.nilf] true false [CK.other]), some (TI.mk (TypeDesc.func (Array.mk [34, 97]) (Array.mk [3]) false) 1 8 [AV.nilf] true false [CK.other]), some (TI.mk (TypeDesc.func (Array.mk [5, 5]) (Array.mk [4]) false) 1 8 [AV.nilf] true false [CK.other]), some (TI.mk (TypeDesc.func (Array.mk []) (Array.mk [9]) false) 1 8 [AV.nilf] true false [CK.other]), some (TI.mk (TypeDesc.struct (Array.mk [Field.mk "_interface" 17 0 false "" "runtime" 0, Field.mk "concrete" 17 1 false "" "runtime" 8, Field.mk "asserted" 17 2 false "" "runtime" 16, Field.mk "missingMethod" 9 3 false "" "runtime" 24])) 4 40 [AV.nilp, AV.nilp, AV.nilp, AV.str (ByteArray.mk (Array.mk []))] false true [CK.other, CK.other, CK.other, CK.str]), some (TI.mk (TypeDesc.struct (Array.mk [Field.mk "_interface" 17 0 false "" "runtime" 0, Field.mk "concrete" 17 1 false "" "runtime" 8, Field.mk "asserted" 17 2 false "" "runtime" 16, Field.mk "missingMethod" 9 3 false "" "runtime" 24])) 4 40 [AV.nilp, AV.nilp, AV.nilp, AV.str (ByteArray.mk (Array.mk []))] false true [CK.other, CK.other, CK.other, CK.str]), some (TI.mk (TypeDesc.array 0 16) 0 0 [] true true []), some (TI.mk (TypeDesc.struct (Array.mk [Field.mk "_" 111 0 false "" "runtime" 0])) 0 0 [] false true []), some (TI.mk (TypeDesc.struct (Array.mk [Field.mk "_" 111 0 false "" "runtime" 0])) 0 0 [] false true []), some (TI.mk (TypeDesc.func (Array.mk []) (Array.mk [3]) false) 1 8 [AV.nilf] true false [CK.other]), some (TI.mk (TypeDesc.int IntKind.u32) 1 4 [AV.int IntKind.u32 0] true true [CK.int IntKind.u32]), some (TI.mk (TypeDesc.int IntKind.u8) 1 1 [AV.int IntKind.u8 0] true true [CK.int IntKind.u8]), some (TI.mk (TypeDesc.int IntKind.u8) 1 1 [AV.int IntKind.u8 0] true true [CK.int IntKind.u8]), some (TI.mk (TypeDesc.func (Array.mk [124, 124]) (Array.mk [4]) false) 1 8 [AV.nilf] true false [CK.other]), some (TI.mk (TypeDesc.pointer 5) 1 8 [AV.nilp] true true [CK.other]), some (TI.mk (TypeDesc.int IntKind.i32) 1 4 [AV.int IntKind.i32 0] true true [CK.int IntKind.i32]), some (TI.mk (TypeDesc.int IntKind.i32) 1 4 [AV.int IntKind.i32 0] true true [CK.int IntKind.i32]), some (TI.mk (TypeDesc.struct (Array.mk [Field.mk "Size_" 12 0 false "" "" 0, Field.mk "PtrBytes" 12 1 false "" "" 8, Field.mk "Hash" 115 2 false "" "" 16, Field.mk "TFlag" 116 3 false "" "" 20, Field.mk "Align_" 5 4 false "" "" 21, Field.mk "FieldAlign_" 5 5 false "" "" 22, Field.mk "Kind_" 117 6 false "" "" 23, Field.mk "Equal" 118 7 false "" "" 24, Field.mk "GCData" 119 8 false "" "" 32, Field.mk "Str" 120 9 false "" "" 40, Field.mk "PtrToThis" 121 10 false "" "" 44])) 11 48 [AV.int IntKind.u64 0, AV.int IntKind.u64 0, AV.int IntKind.u32 0, AV.int IntKind.u8 0, AV.int IntKind.u8 0, AV.int IntKind.u8 0, AV.int IntKind.u8 0, AV.nilf, AV.nilp, AV.int IntKind.i32 0, AV.int IntKind.i32 0] false false [CK.int IntKind.u64, CK.int IntKind.u64, CK.int IntKind.u32, CK.int IntKind.u8, CK.int IntKind.u8, CK.int IntKind.u8, CK.int IntKind.u8, CK.other, CK.other, CK.int IntKind.i32, CK.int IntKind.i32]), some (TI.mk (TypeDesc.struct (Array.mk [Field.mk "Size_" 12 0 false "" "" 0, Field.mk "PtrBytes" 12 1 false "" "" 8, Field.mk "Hash" 115 2 false "" "" 16, Field.mk "TFlag" 116 3 false "" "" 20, Field.mk "Align_" 5 4 false "" "" 21, Field.mk "FieldAlign_" 5 5 false "" "" 22, Field.mk "Kind_" 117 6 false "" "" 23, Field.mk "Equal" 118 7 false "" "" 24, Field.mk "GCData" 119 8 false "" "" 32, Field.mk "Str" 120 9 false "" "" 40, Field.mk "PtrToThis" 121 10 false "" "" 44])) 11 48 [AV.int IntKind.u64 0, AV.int IntKind.u64 0, AV.int IntKind.u32 0, AV.int IntKind.u8 0, AV.int IntKind.u8 0, AV.int IntKind.u8 0, AV.int IntKind.u8 0, AV.nilf, AV.nilp, AV.int IntKind.i32 0, AV.int IntKind.i32 0] false false [CK.int IntKind.u64, CK.int IntKind.u64, CK.int IntKind.u32, CK.int IntKind.u8, CK.int IntKind.u8, CK.int IntKind.u8, CK.int IntKind.u8, CK.other, CK.other, CK.int IntKind.i32, CK.int IntKind.i32]), some (TI.mk TypeDesc.unsafePointer 1 8 [AV.nilp] true true [CK.other])]
theorem E_ok : EnvOK Try.prog E := (show E = envOf Try.prog by kernel_rfl) ▸ envOf_ok _
theorem E_flds : FieldsOK E := fieldsB_ok (by kernel_rfl)
theorem mixed : Try.prog.follows .mixedOrders = true := by kernel_rfl
/-- ferryman/flow.Check -/
noncomputable def T20 : List (FuncId × FSpec) := []
theorem T20_ok : TabOK Try.prog T20 := TabOK.nil _
noncomputable def C20 : Ctx := (ctx E T20 [] [(0, [1]), (1, [15, 16]), (2, [15, 16, 17]), (3, [4, 15, 16]), (4, [15, 16, 24]), (5, [2]), (6, [15, 16]), (7, [2]), (1000002, [15, 16])] [] 26 70)
theorem C20_ok : CtxOK Try.prog C20 := ctx_ok E_ok E_flds mixed T20_ok
noncomputable def S20 : FSpec := inlineK C20 Try.f20
theorem S20_ok : SpecOK Try.prog 20 S20 := inlineK_ok C20_ok Try.func20 (fun _ _ => LoopsOK.none _)
theorem En20 : Enters Try.prog 20 := ⟨_, Try.func20, by decide, rfl⟩

/-- slices.Index[[]ferryman/api.Addr4,ferryman/api.Addr4] -/
noncomputable def T39 : List (FuncId × FSpec) := []
theorem T39_ok : TabOK Try.prog T39 := TabOK.nil _
noncomputable def C39 : Ctx := (ctx E T39 [] [(0, [0, 3]), (1, [0, 3, 7, 8]), (2, [0, 3, 7, 8, 9]), (3, [0, 3, 5, 7, 8]), (4, [0, 3, 5, 7, 8, 16]), (5, [4]), (6, [0, 3, 7, 8]), (7, [4]), (1000002, [0, 3, 7, 8])] [] 19 70)
theorem C39_ok : CtxOK Try.prog C39 := ctx_ok E_ok E_flds mixed T39_ok
noncomputable def S39 : FSpec := inlineK C39 Try.f39
theorem S39_ok : SpecOK Try.prog 39 S39 := inlineK_ok C39_ok Try.func39 (fun _ _ => LoopsOK.none _)
theorem En39 : Enters Try.prog 39 := ⟨_, Try.func39, by decide, rfl⟩

/-- slices.Contains[[]ferryman/api.Addr4,ferryman/api.Addr4] -/
noncomputable def T21 : List (FuncId × FSpec) := [(39, S39)]
theorem T21_ok : TabOK Try.prog T21 := TabOK.cons En39 S39_ok (TabOK.nil _)
noncomputable def C21 : Ctx := (ctx E T21 [] [(0, [0, 3]), (1, [4])] [] 9 70)
theorem C21_ok : CtxOK Try.prog C21 := ctx_ok E_ok E_flds mixed T21_ok
noncomputable def S21 : FSpec := inlineK C21 Try.f21
theorem S21_ok : SpecOK Try.prog 21 S21 := inlineK_ok C21_ok Try.func21 (fun _ _ => LoopsOK.none _)
theorem En21 : Enters Try.prog 21 := ⟨_, Try.func21, by decide, rfl⟩

/-- slices.Clone[[]ferryman/api.Addr4,ferryman/api.Addr4] -/
noncomputable def T22 : List (FuncId × FSpec) := []
theorem T22_ok : TabOK Try.prog T22 := TabOK.nil _
noncomputable def C22 : Ctx := (ctx E T22 [] [(0, [0]), (1, [0, 4]), (2, [2]), (3, [2])] [] 8 70)
theorem C22_ok : CtxOK Try.prog C22 := ctx_ok E_ok E_flds mixed T22_ok
noncomputable def S22 : FSpec := inlineK C22 Try.f22
theorem S22_ok : SpecOK Try.prog 22 S22 := inlineK_ok C22_ok Try.func22 (fun _ _ => LoopsOK.none _)
theorem En22 : Enters Try.prog 22 := ⟨_, Try.func22, by decide, rfl⟩

/-- ferryman/plat.New -/
noncomputable def T7 : List (FuncId × FSpec) := [(20, S20), (21, S21), (22, S22)]
theorem T7_ok : TabOK Try.prog T7 := TabOK.cons En20 S20_ok (TabOK.cons En21 S21_ok (TabOK.cons En22 S22_ok (TabOK.nil _)))
noncomputable def C7 : Ctx := (ctx E T7 [] [(0, [1]), (1, [1, 4]), (2, [1, 4]), (3, [1, 4, 57, 58, 59]), (4, [1, 4, 57, 58, 59, 60]), (5, [1, 4, 5, 6, 57, 58, 59]), (6, [1, 4, 57, 58, 59]), (7, [1, 4, 57, 58, 59]), (8, [1, 76]), (9, [2, 3]), (10, [1]), (11, [2, 3]), (1000004, [1, 4, 57, 58, 59])] [] 84 70)
theorem C7_ok : CtxOK Try.prog C7 := ctx_ok E_ok E_flds mixed T7_ok
noncomputable def S7 : FSpec := liveK C7 Try.f7
theorem S7_ok : SpecOK Try.prog 7 S7 := liveK_ok C7_ok Try.func7 (fun _ _ => LoopsOK.none _)
theorem En7 : Enters Try.prog 7 := ⟨_, Try.func7, by decide, rfl⟩

/-- (*ferryman/plat.Table).made -/
noncomputable def T35 : List (FuncId × FSpec) := []
theorem T35_ok : TabOK Try.prog T35 := TabOK.nil _
noncomputable def C35 : Ctx := (ctx E T35 [] [(0, [0]), (1, [2])] [] 14 70)
theorem C35_ok : CtxOK Try.prog C35 := ctx_ok E_ok E_flds mixed T35_ok
noncomputable def S35 : FSpec := inlineK C35 Try.f35
theorem S35_ok : SpecOK Try.prog 35 S35 := inlineK_ok C35_ok Try.func35 (fun _ _ => LoopsOK.none _)
theorem En35 : Enters Try.prog 35 := ⟨_, Try.func35, by decide, rfl⟩

/-- (*ferryman/plat.Table).begin$1 -/
noncomputable def T41 : List (FuncId × FSpec) := []
theorem T41_ok : TabOK Try.prog T41 := TabOK.nil _
noncomputable def C41 : Ctx := (ctx E T41 [] [(0, [1, 2]), (1, [3])] [] 8 70)
theorem C41_ok : CtxOK Try.prog C41 := ctx_ok E_ok E_flds mixed T41_ok
noncomputable def S41 : FSpec := inlineK C41 Try.f41
theorem S41_ok : SpecOK Try.prog 41 S41 := inlineK_ok C41_ok Try.func41 (fun _ _ => LoopsOK.none _)
theorem En41 : Enters Try.prog 41 := ⟨_, Try.func41, by decide, rfl⟩

/-- (*ferryman/plat.Table).lives$1 -/
noncomputable def T52 : List (FuncId × FSpec) := []
theorem T52_ok : TabOK Try.prog T52 := TabOK.nil _
noncomputable def C52 : Ctx := (ctx E T52 [] [(0, [1, 2, 3]), (1, [4])] [] 15 70)
theorem C52_ok : CtxOK Try.prog C52 := ctx_ok E_ok E_flds mixed T52_ok
noncomputable def S52 : FSpec := inlineK C52 Try.f52
theorem S52_ok : SpecOK Try.prog 52 S52 := inlineK_ok C52_ok Try.func52 (fun _ _ => LoopsOK.none _)
theorem En52 : Enters Try.prog 52 := ⟨_, Try.func52, by decide, rfl⟩

/-- (*ferryman/plat.Table).In$1 -/
noncomputable def T34 : List (FuncId × FSpec) := []
theorem T34_ok : TabOK Try.prog T34 := TabOK.nil _
noncomputable def C34 : Ctx := (ctx E T34 [] [(0, [1, 2, 3]), (1, [4])] [] 16 70)
theorem C34_ok : CtxOK Try.prog C34 := ctx_ok E_ok E_flds mixed T34_ok
noncomputable def S34 : FSpec := inlineK C34 Try.f34
theorem S34_ok : SpecOK Try.prog 34 S34 := inlineK_ok C34_ok Try.func34 (fun _ _ => LoopsOK.none _)
theorem En34 : Enters Try.prog 34 := ⟨_, Try.func34, by decide, rfl⟩

/-- slices.IndexFunc[[]ferryman/api.Session,ferryman/api.Session] -/
noncomputable def T51 : List (FuncId × FSpec) := [(41, S41), (52, S52), (34, S34)]
theorem T51_ok : TabOK Try.prog T51 := TabOK.cons En41 S41_ok (TabOK.cons En52 S52_ok (TabOK.cons En34 S34_ok (TabOK.nil _)))
noncomputable def C51 : Ctx := (ctx E T51 [] [(0, [0, 1]), (1, [0, 1, 7, 8]), (2, [0, 1, 7, 8, 9]), (3, [0, 1, 5, 7, 8]), (4, [0, 1, 5, 7, 8, 16]), (5, [4]), (6, [0, 1, 7, 8]), (7, [4]), (1000002, [0, 1, 7, 8])] [] 19 70)
theorem C51_ok : CtxOK Try.prog C51 := ctx_ok E_ok E_flds mixed T51_ok
noncomputable def S51 : FSpec := inlineK C51 Try.f51
theorem S51_ok : SpecOK Try.prog 51 S51 := inlineK_ok C51_ok Try.func51 (fun _ _ => LoopsOK.none _)
theorem En51 : Enters Try.prog 51 := ⟨_, Try.func51, by decide, rfl⟩

/-- slices.DeleteFunc[[]ferryman/api.Session,ferryman/api.Session] -/
noncomputable def T40 : List (FuncId × FSpec) := [(51, S51), (41, S41)]
theorem T40_ok : TabOK Try.prog T40 := TabOK.cons En51 S51_ok (TabOK.cons En41 S41_ok (TabOK.nil _))
noncomputable def C40 : Ctx := (ctx E T40 [] [(0, [0, 1]), (1, [0, 1, 5]), (2, [0, 1, 5, 12]), (3, [4]), (4, [0, 1, 5, 6]), (5, [0, 1, 5, 6, 19]), (6, [0, 1, 5, 6]), (7, [0, 1, 5, 6, 7]), (8, [0, 1, 5, 6, 7, 29]), (9, [0, 1, 5, 6]), (10, [0, 1, 5, 6]), (11, [0, 5]), (12, [4]), (1000005, [0, 1, 5, 6])] [] 42 70)
theorem C40_ok : CtxOK Try.prog C40 := ctx_ok E_ok E_flds mixed T40_ok
noncomputable def S40 : FSpec := inlineK C40 Try.f40
theorem S40_ok : SpecOK Try.prog 40 S40 := inlineK_ok C40_ok Try.func40 (fun _ _ => LoopsOK.none _)
theorem En40 : Enters Try.prog 40 := ⟨_, Try.func40, by decide, rfl⟩

/-- slices.ContainsFunc[[]ferryman/api.Session,ferryman/api.Session] -/
noncomputable def T33 : List (FuncId × FSpec) := [(51, S51)]
theorem T33_ok : TabOK Try.prog T33 := TabOK.cons En51 S51_ok (TabOK.nil _)
noncomputable def C33 : Ctx := (ctx E T33 [] [(0, [0, 1]), (1, [4])] [] 9 70)
theorem C33_ok : CtxOK Try.prog C33 := ctx_ok E_ok E_flds mixed T33_ok
noncomputable def S33 : FSpec := inlineK C33 Try.f33
theorem S33_ok : SpecOK Try.prog 33 S33 := inlineK_ok C33_ok Try.func33 (fun _ _ => LoopsOK.none _)
theorem En33 : Enters Try.prog 33 := ⟨_, Try.func33, by decide, rfl⟩

/-- (*ferryman/plat.Table).lives -/
noncomputable def T38 : List (FuncId × FSpec) := [(33, S33), (52, S52)]
theorem T38_ok : TabOK Try.prog T38 := TabOK.cons En33 S33_ok (TabOK.cons En52 S52_ok (TabOK.nil _))
noncomputable def C38 : Ctx := (ctx E T38 [] [(0, [0, 4, 5]), (1, [6])] [] 13 70)
theorem C38_ok : CtxOK Try.prog C38 := ctx_ok E_ok E_flds mixed T38_ok
noncomputable def S38 : FSpec := inlineK C38 Try.f38
theorem S38_ok : SpecOK Try.prog 38 S38 := inlineK_ok C38_ok Try.func38 (fun _ _ => LoopsOK.none _)
theorem En38 : Enters Try.prog 38 := ⟨_, Try.func38, by decide, rfl⟩

/-- (*ferryman/plat.Table).begin$2 -/
noncomputable def T43 : List (FuncId × FSpec) := [(38, S38)]
theorem T43_ok : TabOK Try.prog T43 := TabOK.cons En38 S38_ok (TabOK.nil _)
noncomputable def C43 : Ctx := (ctx E T43 [] [(0, [1, 2, 3]), (1, [4])] [] 10 70)
theorem C43_ok : CtxOK Try.prog C43 := ctx_ok E_ok E_flds mixed T43_ok
noncomputable def S43 : FSpec := inlineK C43 Try.f43
theorem S43_ok : SpecOK Try.prog 43 S43 := inlineK_ok C43_ok Try.func43 (fun _ _ => LoopsOK.none _)
theorem En43 : Enters Try.prog 43 := ⟨_, Try.func43, by decide, rfl⟩

/-- (*ferryman/plat.Table).inside$1 -/
noncomputable def T45 : List (FuncId × FSpec) := []
theorem T45_ok : TabOK Try.prog T45 := TabOK.nil _
noncomputable def C45 : Ctx := (ctx E T45 [] [(0, [1, 2, 3, 4]), (1, [5])] [] 22 70)
theorem C45_ok : CtxOK Try.prog C45 := ctx_ok E_ok E_flds mixed T45_ok
noncomputable def S45 : FSpec := inlineK C45 Try.f45
theorem S45_ok : SpecOK Try.prog 45 S45 := inlineK_ok C45_ok Try.func45 (fun _ _ => LoopsOK.none _)
theorem En45 : Enters Try.prog 45 := ⟨_, Try.func45, by decide, rfl⟩

/-- (*ferryman/plat.Table).outside$1 -/
noncomputable def T50 : List (FuncId × FSpec) := []
theorem T50_ok : TabOK Try.prog T50 := TabOK.nil _
noncomputable def C50 : Ctx := (ctx E T50 [] [(0, [1, 2, 3, 4]), (1, [5])] [] 22 70)
theorem C50_ok : CtxOK Try.prog C50 := ctx_ok E_ok E_flds mixed T50_ok
noncomputable def S50 : FSpec := inlineK C50 Try.f50
theorem S50_ok : SpecOK Try.prog 50 S50 := inlineK_ok C50_ok Try.func50 (fun _ _ => LoopsOK.none _)
theorem En50 : Enters Try.prog 50 := ⟨_, Try.func50, by decide, rfl⟩

/-- slices.IndexFunc[[]ferryman/api.Binding,ferryman/api.Binding] -/
noncomputable def T53 : List (FuncId × FSpec) := [(43, S43), (45, S45), (50, S50)]
theorem T53_ok : TabOK Try.prog T53 := TabOK.cons En43 S43_ok (TabOK.cons En45 S45_ok (TabOK.cons En50 S50_ok (TabOK.nil _)))
noncomputable def C53 : Ctx := (ctx E T53 [] [(0, [0, 1]), (1, [0, 1, 7, 8]), (2, [0, 1, 7, 8, 9]), (3, [0, 1, 5, 7, 8]), (4, [0, 1, 5, 7, 8, 16]), (5, [4]), (6, [0, 1, 7, 8]), (7, [4]), (1000002, [0, 1, 7, 8])] [] 19 70)
theorem C53_ok : CtxOK Try.prog C53 := ctx_ok E_ok E_flds mixed T53_ok
noncomputable def S53 : FSpec := inlineK C53 Try.f53
theorem S53_ok : SpecOK Try.prog 53 S53 := inlineK_ok C53_ok Try.func53 (fun _ _ => LoopsOK.none _)
theorem En53 : Enters Try.prog 53 := ⟨_, Try.func53, by decide, rfl⟩

/-- slices.DeleteFunc[[]ferryman/api.Binding,ferryman/api.Binding] -/
noncomputable def T42 : List (FuncId × FSpec) := [(53, S53), (43, S43)]
theorem T42_ok : TabOK Try.prog T42 := TabOK.cons En53 S53_ok (TabOK.cons En43 S43_ok (TabOK.nil _))
noncomputable def C42 : Ctx := (ctx E T42 [] [(0, [0, 1]), (1, [0, 1, 5]), (2, [0, 1, 5, 12]), (3, [4]), (4, [0, 1, 5, 6]), (5, [0, 1, 5, 6, 19]), (6, [0, 1, 5, 6]), (7, [0, 1, 5, 6, 7]), (8, [0, 1, 5, 6, 7, 29]), (9, [0, 1, 5, 6]), (10, [0, 1, 5, 6]), (11, [0, 5]), (12, [4]), (1000005, [0, 1, 5, 6])] [] 42 70)
theorem C42_ok : CtxOK Try.prog C42 := ctx_ok E_ok E_flds mixed T42_ok
noncomputable def S42 : FSpec := inlineK C42 Try.f42
theorem S42_ok : SpecOK Try.prog 42 S42 := inlineK_ok C42_ok Try.func42 (fun _ _ => LoopsOK.none _)
theorem En42 : Enters Try.prog 42 := ⟨_, Try.func42, by decide, rfl⟩

/-- (*ferryman/plat.Table).begin -/
noncomputable def T24 : List (FuncId × FSpec) := [(35, S35), (40, S40), (41, S41), (42, S42), (43, S43)]
theorem T24_ok : TabOK Try.prog T24 := TabOK.cons En35 S35_ok (TabOK.cons En40 S40_ok (TabOK.cons En41 S41_ok (TabOK.cons En42 S42_ok (TabOK.cons En43 S43_ok (TabOK.nil _)))))
noncomputable def C24 : Ctx := (ctx E T24 [] [(0, [2, 3]), (1, [2, 3, 7]), (2, [4]), (3, [2, 3, 17]), (4, [4]), (5, [2, 3]), (6, [2, 3]), (7, []), (8, [4])] [] 40 70)
theorem C24_ok : CtxOK Try.prog C24 := ctx_ok E_ok E_flds mixed T24_ok
noncomputable def S24 : FSpec := inlineK C24 Try.f24
theorem S24_ok : SpecOK Try.prog 24 S24 := inlineK_ok C24_ok Try.func24 (fun _ _ => LoopsOK.none _)
theorem En24 : Enters Try.prog 24 := ⟨_, Try.func24, by decide, rfl⟩

/-- ferryman/plat.told -/
noncomputable def T25 : List (FuncId × FSpec) := []
theorem T25_ok : TabOK Try.prog T25 := TabOK.nil _
noncomputable def C25 : Ctx := (ctx E T25 [] [(0, [0]), (1, [0, 3]), (2, [0, 3, 4]), (3, [0, 3, 6]), (4, [0, 3, 8]), (5, [0, 10]), (6, [2]), (7, [2]), (8, [2])] [] 13 70)
theorem C25_ok : CtxOK Try.prog C25 := ctx_ok E_ok E_flds mixed T25_ok
noncomputable def S25 : FSpec := inlineK C25 Try.f25
theorem S25_ok : SpecOK Try.prog 25 S25 := inlineK_ok C25_ok Try.func25 (fun _ _ => LoopsOK.none _)
theorem En25 : Enters Try.prog 25 := ⟨_, Try.func25, by decide, rfl⟩

/-- ferryman/plat.find -/
noncomputable def T44 : List (FuncId × FSpec) := [(53, S53), (45, S45), (50, S50)]
theorem T44_ok : TabOK Try.prog T44 := TabOK.cons En53 S53_ok (TabOK.cons En45 S45_ok (TabOK.cons En50 S50_ok (TabOK.nil _)))
noncomputable def C44 : Ctx := (ctx E T44 [] [(0, [0, 1, 4]), (1, [0, 4, 6]), (2, [0, 4, 6, 11]), (3, [4, 5]), (4, [4, 5])] [] 17 70)
theorem C44_ok : CtxOK Try.prog C44 := ctx_ok E_ok E_flds mixed T44_ok
noncomputable def S44 : FSpec := inlineK C44 Try.f44
theorem S44_ok : SpecOK Try.prog 44 S44 := inlineK_ok C44_ok Try.func44 (fun _ _ => LoopsOK.none _)
theorem En44 : Enters Try.prog 44 := ⟨_, Try.func44, by decide, rfl⟩

/-- (*ferryman/plat.Table).inside -/
noncomputable def T26 : List (FuncId × FSpec) := [(44, S44), (45, S45)]
theorem T26_ok : TabOK Try.prog T26 := TabOK.cons En44 S44_ok (TabOK.cons En45 S45_ok (TabOK.nil _))
noncomputable def C26 : Ctx := (ctx E T26 [] [(0, [0, 5, 6, 7, 8]), (1, [8, 9])] [] 18 70)
theorem C26_ok : CtxOK Try.prog C26 := ctx_ok E_ok E_flds mixed T26_ok
noncomputable def S26 : FSpec := inlineK C26 Try.f26
theorem S26_ok : SpecOK Try.prog 26 S26 := inlineK_ok C26_ok Try.func26 (fun _ _ => LoopsOK.none _)
theorem En26 : Enters Try.prog 26 := ⟨_, Try.func26, by decide, rfl⟩

/-- (*ferryman/plat.Table).session -/
noncomputable def T27 : List (FuncId × FSpec) := []
theorem T27_ok : TabOK Try.prog T27 := TabOK.nil _
noncomputable def C27 : Ctx := (ctx E T27 [] [(0, [0, 3, 5, 6]), (1, [0, 3, 5, 6, 15, 16]), (2, [0, 3, 5, 6, 15, 16, 17]), (3, [0, 3, 5, 6, 9, 15, 16]), (4, [0, 3, 5, 6, 10, 15, 16]), (5, [0, 3, 5, 6, 10, 15, 16, 46]), (6, [8]), (7, [0, 3, 5, 6, 15, 16]), (8, [8]), (1000002, [0, 3, 5, 6, 15, 16])] [] 49 70)
theorem C27_ok : CtxOK Try.prog C27 := ctx_ok E_ok E_flds mixed T27_ok
noncomputable def S27 : FSpec := inlineK C27 Try.f27
theorem S27_ok : SpecOK Try.prog 27 S27 := inlineK_ok C27_ok Try.func27 (fun _ _ => LoopsOK.none _)
theorem En27 : Enters Try.prog 27 := ⟨_, Try.func27, by decide, rfl⟩

/-- ferryman/flow.Life -/
noncomputable def T49 : List (FuncId × FSpec) := [(20, S20)]
theorem T49_ok : TabOK Try.prog T49 := TabOK.cons En20 S20_ok (TabOK.nil _)
noncomputable def C49 : Ctx := (ctx E T49 [] [(0, [1, 2]), (1, [1, 2, 6]), (2, [1, 2, 6, 10]), (3, [4, 5]), (4, [2, 12]), (5, [2, 12, 13]), (6, [4, 5]), (7, [2, 12, 17]), (8, [4, 5]), (9, [2, 12, 21]), (10, [4, 5]), (11, [2, 12, 25]), (12, [2, 12, 25]), (13, [2, 12, 25]), (14, [4, 5]), (15, [2, 12, 31]), (16, [2, 31]), (17, [4, 5]), (18, [4, 5])] [] 36 70)
theorem C49_ok : CtxOK Try.prog C49 := ctx_ok E_ok E_flds mixed T49_ok
noncomputable def S49 : FSpec := inlineK C49 Try.f49
theorem S49_ok : SpecOK Try.prog 49 S49 := inlineK_ok C49_ok Try.func49 (fun _ _ => LoopsOK.none _)
theorem En49 : Enters Try.prog 49 := ⟨_, Try.func49, by decide, rfl⟩

/-- (*ferryman/plat.Table).end -/
noncomputable def T31 : List (FuncId × FSpec) := [(49, S49)]
theorem T31_ok : TabOK Try.prog T31 := TabOK.cons En49 S49_ok (TabOK.nil _)
noncomputable def C31 : Ctx := (ctx E T31 [] [(0, [0, 1]), (1, [0, 5]), (2, [4])] [] 24 70)
theorem C31_ok : CtxOK Try.prog C31 := ctx_ok E_ok E_flds mixed T31_ok
noncomputable def S31 : FSpec := inlineK C31 Try.f31
theorem S31_ok : SpecOK Try.prog 31 S31 := inlineK_ok C31_ok Try.func31 (fun _ _ => LoopsOK.none _)
theorem En31 : Enters Try.prog 31 := ⟨_, Try.func31, by decide, rfl⟩

/-- ferryman/flow.has -/
noncomputable def T54 : List (FuncId × FSpec) := []
theorem T54_ok : TabOK Try.prog T54 := TabOK.nil _
noncomputable def C54 : Ctx := (ctx E T54 [] [(0, [0, 1]), (1, [4])] [] 9 70)
theorem C54_ok : CtxOK Try.prog C54 := ctx_ok E_ok E_flds mixed T54_ok
noncomputable def S54 : FSpec := inlineK C54 Try.f54
theorem S54_ok : SpecOK Try.prog 54 S54 := inlineK_ok C54_ok Try.func54 (fun _ _ => LoopsOK.none _)
theorem En54 : Enters Try.prog 54 := ⟨_, Try.func54, by decide, rfl⟩

/-- ferryman/flow.opens -/
noncomputable def T47 : List (FuncId × FSpec) := [(54, S54)]
theorem T47_ok : TabOK Try.prog T47 := TabOK.cons En54 S54_ok (TabOK.nil _)
noncomputable def C47 : Ctx := (ctx E T47 [] [(0, [0]), (1, [2])] [] 10 70)
theorem C47_ok : CtxOK Try.prog C47 := ctx_ok E_ok E_flds mixed T47_ok
noncomputable def S47 : FSpec := inlineK C47 Try.f47
theorem S47_ok : SpecOK Try.prog 47 S47 := inlineK_ok C47_ok Try.func47 (fun _ _ => LoopsOK.none _)
theorem En47 : Enters Try.prog 47 := ⟨_, Try.func47, by decide, rfl⟩

/-- ferryman/flow.Step -/
noncomputable def T46 : List (FuncId × FSpec) := [(47, S47), (54, S54)]
theorem T46_ok : TabOK Try.prog T46 := TabOK.cons En47 S47_ok (TabOK.cons En54 S54_ok (TabOK.nil _))
noncomputable def C46 : Ctx := (ctx E T46 [] [(0, [0, 1, 2]), (1, [0, 1, 2, 8, 9]), (2, [0, 1, 2, 8, 9, 14]), (3, [0, 1, 2, 8, 9, 14, 15]), (4, [0, 1, 2, 8, 9, 14, 17]), (5, [0, 1, 2, 8, 9, 14, 19]), (6, [0, 1, 8, 9, 14, 21]), (7, [0, 1, 8, 9, 14, 23]), (8, [0, 1, 8, 9, 14, 25]), (9, [0, 9, 27]), (10, [6, 7]), (11, [0, 2, 35]), (12, [6, 7]), (13, [6, 7]), (14, [0, 1, 8, 39]), (15, [6, 7]), (16, [0, 8, 41]), (17, [6, 7]), (18, [0, 46]), (19, [6, 7]), (20, [6, 7]), (21, [0, 1, 8, 49]), (22, [6, 7]), (23, [0, 51]), (24, [6, 7]), (25, [6, 7]), (26, [0, 61]), (27, [6, 7]), (28, [6, 7])] [] 63 70)
theorem C46_ok : CtxOK Try.prog C46 := ctx_ok E_ok E_flds mixed T46_ok
noncomputable def S46 : FSpec := inlineK C46 Try.f46
theorem S46_ok : SpecOK Try.prog 46 S46 := inlineK_ok C46_ok Try.func46 (fun _ _ => LoopsOK.none _)
theorem En46 : Enters Try.prog 46 := ⟨_, Try.func46, by decide, rfl⟩

/-- (*ferryman/plat.Table).step -/
noncomputable def T28 : List (FuncId × FSpec) := [(31, S31), (46, S46)]
theorem T28_ok : TabOK Try.prog T28 := TabOK.cons En31 S31_ok (TabOK.cons En46 S46_ok (TabOK.nil _))
noncomputable def C28 : Ctx := (ctx E T28 [] [(0, [0, 1, 8, 9]), (1, [0, 1, 8, 9]), (2, [0, 1, 8, 24]), (3, [])] [] 31 70)
theorem C28_ok : CtxOK Try.prog C28 := ctx_ok E_ok E_flds mixed T28_ok
noncomputable def S28 : FSpec := inlineK C28 Try.f28
theorem S28_ok : SpecOK Try.prog 28 S28 := inlineK_ok C28_ok Try.func28 (fun _ _ => LoopsOK.none _)
theorem En28 : Enters Try.prog 28 := ⟨_, Try.func28, by decide, rfl⟩

/-- ferryman/flow.Begin -/
noncomputable def T29 : List (FuncId × FSpec) := [(47, S47)]
theorem T29_ok : TabOK Try.prog T29 := TabOK.cons En47 S47_ok (TabOK.nil _)
noncomputable def C29 : Ctx := (ctx E T29 [] [(0, [0, 1]), (1, [1, 6]), (2, [1, 6, 7]), (3, [1, 6, 9]), (4, [1, 6, 11]), (5, [1, 13]), (6, [4, 5]), (7, [4, 5]), (8, [17]), (9, [4, 5]), (10, [4, 5]), (11, [4, 5])] [] 18 70)
theorem C29_ok : CtxOK Try.prog C29 := ctx_ok E_ok E_flds mixed T29_ok
noncomputable def S29 : FSpec := inlineK C29 Try.f29
theorem S29_ok : SpecOK Try.prog 29 S29 := inlineK_ok C29_ok Try.func29 (fun _ _ => LoopsOK.none _)
theorem En29 : Enters Try.prog 29 := ⟨_, Try.func29, by decide, rfl⟩

/-- (*ferryman/plat.Table).free$1 -/
noncomputable def T48 : List (FuncId × FSpec) := []
theorem T48_ok : TabOK Try.prog T48 := TabOK.nil _
noncomputable def C48 : Ctx := (ctx E T48 [] [(0, [1, 2, 3, 4]), (1, [6])] [] 14 70)
theorem C48_ok : CtxOK Try.prog C48 := ctx_ok E_ok E_flds mixed T48_ok
noncomputable def S48 : FSpec := inlineK C48 Try.f48
theorem S48_ok : SpecOK Try.prog 48 S48 := inlineK_ok C48_ok Try.func48 (fun _ _ => LoopsOK.none _)
theorem En48 : Enters Try.prog 48 := ⟨_, Try.func48, by decide, rfl⟩

/-- (*ferryman/plat.Table).free -/
noncomputable def T30 : List (FuncId × FSpec) := [(48, S48), (48, S48)]
theorem T30_ok : TabOK Try.prog T30 := TabOK.cons En48 S48_ok (TabOK.cons En48 S48_ok (TabOK.nil _))
noncomputable def C30 : Ctx := (ctx E T30 [] [(0, [0, 2, 4, 6]), (1, [0, 2, 4, 6, 9]), (2, [0, 2, 4, 6, 9, 22, 23, 24]), (3, [0, 2, 4, 6, 9, 22, 23, 24, 25]), (4, [0, 2, 4, 6, 9, 11, 22, 23, 24]), (5, [0, 2, 4, 6, 9, 22, 23, 24]), (6, [0, 2, 4, 6, 9, 22, 23, 24]), (7, [0, 2, 6, 12]), (8, [0, 2, 6, 12, 53]), (9, [0, 2, 6, 12, 58, 59, 60]), (10, [0, 2, 6, 12, 58, 59, 60, 61]), (11, [0, 2, 6, 12, 14, 58, 59, 60]), (12, [0, 2, 6, 12, 14, 58, 59, 60, 68]), (13, [6, 7, 8]), (14, [0, 2, 6, 12, 58, 59, 60]), (15, [0, 6, 12, 76, 77, 78]), (16, [0, 6, 12, 76, 77, 78, 79]), (17, [0, 6, 12, 16, 76, 77, 78]), (18, [0, 6, 12, 16, 17, 76, 77, 78]), (19, [0, 6, 12, 16, 17, 76, 77, 78, 95]), (20, [0, 6, 12, 16, 17, 76, 77, 78]), (21, [0, 6, 12, 16, 17, 76, 77, 78, 103]), (22, [6, 7, 8]), (23, [0, 6, 12, 76, 77, 78]), (24, [6, 7, 8]), (1000003, [0, 2, 4, 6, 9, 22, 23, 24]), (1000010, [0, 2, 6, 12, 58, 59, 60]), (1000016, [0, 6, 12, 76, 77, 78]), (1000019, [0, 6, 12, 16, 17, 76, 77, 78])] [] 109 70)
theorem C30_ok : CtxOK Try.prog C30 := ctx_ok E_ok E_flds mixed T30_ok
noncomputable def S30 : FSpec := inlineK C30 Try.f30
theorem S30_ok : SpecOK Try.prog 30 S30 := inlineK_ok C30_ok Try.func30 (fun _ _ => LoopsOK.none _)
theorem En30 : Enters Try.prog 30 := ⟨_, Try.func30, by decide, rfl⟩

/-- (*ferryman/plat.Table).Out -/
noncomputable def T10 : List (FuncId × FSpec) := [(24, S24), (25, S25), (26, S26), (27, S27), (28, S28), (29, S29), (30, S30), (31, S31)]
theorem T10_ok : TabOK Try.prog T10 := TabOK.cons En24 S24_ok (TabOK.cons En25 S25_ok (TabOK.cons En26 S26_ok (TabOK.cons En27 S27_ok (TabOK.cons En28 S28_ok (TabOK.cons En29 S29_ok (TabOK.cons En30 S30_ok (TabOK.cons En31 S31_ok (TabOK.nil _))))))))
noncomputable def C10 : Ctx := (ctx E T10 [] [(0, [0, 1, 3, 6, 8]), (1, [0, 3, 6, 8, 11]), (2, [0, 3, 6, 8, 11, 25]), (3, [8, 9, 10]), (4, [0, 3, 6, 8, 12]), (5, [0, 3, 6, 8, 12, 32]), (6, [8, 9, 10]), (7, [0, 3, 6, 8, 12, 35]), (8, [0, 3, 6, 8, 12]), (9, [0, 3, 6, 8, 12, 13, 14]), (10, [0, 3, 6, 8, 12, 13, 14, 47]), (11, [0, 3, 6, 8, 12, 13, 14, 15]), (12, [0, 3, 6, 8, 12, 13, 14, 15, 56]), (13, [8, 13]), (14, [8, 9, 10]), (15, [0, 6, 8, 12, 13, 14, 16, 17]), (16, [0, 6, 8, 12, 13, 14, 16, 17, 72]), (17, [8, 9, 10]), (18, [0, 6, 8, 12, 13, 14, 16, 85]), (19, [8, 9, 10]), (20, [0, 6, 8, 12, 13, 16, 88]), (21, [0, 6, 8, 12, 13, 16, 99]), (22, [8, 9, 10]), (23, [0, 6, 8, 12, 13, 16, 18, 19, 20]), (24, [0, 6, 8, 12, 13, 16, 18, 19, 111]), (25, [8, 9, 10]), (26, [0, 6, 8, 13, 16]), (27, [0, 6, 8, 13, 16]), (28, [8, 13]), (29, [8, 9, 10])] [] 154 70)
theorem C10_ok : CtxOK Try.prog C10 := ctx_ok E_ok E_flds mixed T10_ok
noncomputable def S10 : FSpec := inlineK C10 Try.f10
theorem S10_ok : SpecOK Try.prog 10 S10 := inlineK_ok C10_ok Try.func10 (fun _ _ => LoopsOK.none _)
theorem En10 : Enters Try.prog 10 := ⟨_, Try.func10, by decide, rfl⟩

/-- (*ferryman/plat.Table).outside -/
noncomputable def T32 : List (FuncId × FSpec) := [(44, S44), (50, S50)]
theorem T32_ok : TabOK Try.prog T32 := TabOK.cons En44 S44_ok (TabOK.cons En50 S50_ok (TabOK.nil _))
noncomputable def C32 : Ctx := (ctx E T32 [] [(0, [0, 5, 6, 7, 8]), (1, [8, 9])] [] 18 70)
theorem C32_ok : CtxOK Try.prog C32 := ctx_ok E_ok E_flds mixed T32_ok
noncomputable def S32 : FSpec := inlineK C32 Try.f32
theorem S32_ok : SpecOK Try.prog 32 S32 := inlineK_ok C32_ok Try.func32 (fun _ _ => LoopsOK.none _)
theorem En32 : Enters Try.prog 32 := ⟨_, Try.func32, by decide, rfl⟩

/-- (*ferryman/plat.Table).In -/
noncomputable def T12 : List (FuncId × FSpec) := [(24, S24), (25, S25), (27, S27), (28, S28), (29, S29), (31, S31), (32, S32), (33, S33), (34, S34)]
theorem T12_ok : TabOK Try.prog T12 := TabOK.cons En24 S24_ok (TabOK.cons En25 S25_ok (TabOK.cons En27 S27_ok (TabOK.cons En28 S28_ok (TabOK.cons En29 S29_ok (TabOK.cons En31 S31_ok (TabOK.cons En32 S32_ok (TabOK.cons En33 S33_ok (TabOK.cons En34 S34_ok (TabOK.nil _)))))))))
noncomputable def C12 : Ctx := (ctx E T12 [] [(0, [0, 1, 3, 6, 8]), (1, [0, 3, 6, 8, 11]), (2, [0, 3, 6, 8, 11, 23]), (3, [8, 9, 10]), (4, [0, 3, 6, 8, 12]), (5, [0, 3, 6, 8, 12, 30]), (6, [8, 9, 10]), (7, [0, 3, 6, 8, 12, 33]), (8, [0, 3, 6, 8, 12]), (9, [0, 3, 6, 8, 12, 13, 14]), (10, [0, 3, 6, 8, 12, 13, 46]), (11, [8, 9, 10]), (12, [0, 3, 6, 8, 12, 13, 15]), (13, [0, 3, 6, 8, 12, 13, 15, 56]), (14, [8, 13]), (15, [8, 9, 10]), (16, [0, 3, 6, 8, 12, 13, 16]), (17, [0, 3, 6, 8, 12, 13, 83]), (18, [8, 9, 10]), (19, [0, 3, 6, 8, 12, 13, 95]), (20, [8, 9, 10]), (21, [0, 6, 8, 13, 17]), (22, [8, 13]), (23, [8, 9, 10])] [] 126 70)
theorem C12_ok : CtxOK Try.prog C12 := ctx_ok E_ok E_flds mixed T12_ok
noncomputable def S12 : FSpec := inlineK C12 Try.f12
theorem S12_ok : SpecOK Try.prog 12 S12 := inlineK_ok C12_ok Try.func12 (fun _ _ => LoopsOK.none _)
theorem En12 : Enters Try.prog 12 := ⟨_, Try.func12, by decide, rfl⟩

/-- ferryman/ferrymanlaw21.conf -/
noncomputable def T23 : List (FuncId × FSpec) := []
theorem T23_ok : TabOK Try.prog T23 := TabOK.nil _
noncomputable def C23 : Ctx := (ctx E T23 [] [(0, [0]), (1, [0])] [] 5 70)
theorem C23_ok : CtxOK Try.prog C23 := ctx_ok E_ok E_flds mixed T23_ok
noncomputable def S23 : FSpec := inlineK C23 Try.f23
theorem S23_ok : SpecOK Try.prog 23 S23 := inlineK_ok C23_ok Try.func23 (fun _ _ => LoopsOK.none _)
theorem En23 : Enters Try.prog 23 := ⟨_, Try.func23, by decide, rfl⟩

noncomputable def T20z : List (FuncId × FSpec) := []
theorem T20z_ok : TabOK Try.prog T20z := TabOK.nil _
noncomputable def C20z : Ctx := (ctx E T20z [] [(0, [1]), (1, [15, 16]), (2, [15, 16, 17]), (3, [4, 15, 16]), (4, [15, 16, 24]), (5, [2]), (6, [15, 16]), (7, [2]), (1000002, [15, 16])] [] 26 70)
noncomputable def S20z : FSpec := inlineK C20z Try.f20
theorem C20z_ok : CtxOK Try.prog C20z := ctx_ok E_ok E_flds mixed T20z_ok
theorem S20z_ok : SpecOK Try.prog 20 S20z := inlineK_ok C20z_ok Try.func20 (fun _ _ => LoopsOK.none _)
noncomputable def T39z : List (FuncId × FSpec) := []
theorem T39z_ok : TabOK Try.prog T39z := TabOK.nil _
noncomputable def C39z : Ctx := (ctx E T39z [] [(0, [0, 3]), (1, [0, 3, 7, 8]), (2, [0, 3, 7, 8, 9]), (3, [0, 3, 5, 7, 8]), (4, [0, 3, 5, 7, 8, 16]), (5, [4]), (6, [0, 3, 7, 8]), (7, [4]), (1000002, [0, 3, 7, 8])] [] 19 70)
noncomputable def S39z : FSpec := inlineK C39z Try.f39
theorem C39z_ok : CtxOK Try.prog C39z := ctx_ok E_ok E_flds mixed T39z_ok
theorem S39z_ok : SpecOK Try.prog 39 S39z := inlineK_ok C39z_ok Try.func39 (fun _ _ => LoopsOK.none _)
noncomputable def T21z : List (FuncId × FSpec) := [(39, S39z)]
theorem T21z_ok : TabOK Try.prog T21z := TabOK.cons En39 S39z_ok (TabOK.nil _)
noncomputable def C21z : Ctx := (ctx E T21z [] [(0, [0, 3]), (1, [4])] [] 9 70)
noncomputable def S21z : FSpec := inlineK C21z Try.f21
theorem C21z_ok : CtxOK Try.prog C21z := ctx_ok E_ok E_flds mixed T21z_ok
theorem S21z_ok : SpecOK Try.prog 21 S21z := inlineK_ok C21z_ok Try.func21 (fun _ _ => LoopsOK.none _)
noncomputable def T22z : List (FuncId × FSpec) := []
theorem T22z_ok : TabOK Try.prog T22z := TabOK.nil _
noncomputable def C22z : Ctx := (ctx E T22z [] [(0, [0]), (1, [0, 4]), (2, [2]), (3, [2])] [] 8 70)
noncomputable def S22z : FSpec := inlineK C22z Try.f22
theorem C22z_ok : CtxOK Try.prog C22z := ctx_ok E_ok E_flds mixed T22z_ok
theorem S22z_ok : SpecOK Try.prog 22 S22z := inlineK_ok C22z_ok Try.func22 (fun _ _ => LoopsOK.none _)
noncomputable def T7z : List (FuncId × FSpec) := [(20, S20z), (21, S21z), (22, S22z)]
theorem T7z_ok : TabOK Try.prog T7z := TabOK.cons En20 S20z_ok (TabOK.cons En21 S21z_ok (TabOK.cons En22 S22z_ok (TabOK.nil _)))
noncomputable def C7z : Ctx := (ctx E T7z [] [(0, [1]), (1, [1, 4]), (2, [1, 4]), (3, [1, 4, 57, 58, 59]), (4, [1, 4, 57, 58, 59, 60]), (5, [1, 4, 5, 6, 57, 58, 59]), (6, [1, 4, 57, 58, 59]), (7, [1, 4, 57, 58, 59]), (8, [1, 76]), (9, [2, 3]), (10, [1]), (11, [2, 3]), (1000004, [1, 4, 57, 58, 59])] [] 84 70)
noncomputable def S7z : FSpec := liveK C7z Try.f7
theorem C7z_ok : CtxOK Try.prog C7z := ctx_ok E_ok E_flds mixed T7z_ok
theorem S7z_ok : SpecOK Try.prog 7 S7z := liveK_ok C7z_ok Try.func7 (fun _ _ => LoopsOK.none _)
noncomputable def T35z : List (FuncId × FSpec) := []
theorem T35z_ok : TabOK Try.prog T35z := TabOK.nil _
noncomputable def C35z : Ctx := (ctx E T35z [] [(0, [0]), (1, [2])] [] 14 70)
noncomputable def S35z : FSpec := inlineK C35z Try.f35
theorem C35z_ok : CtxOK Try.prog C35z := ctx_ok E_ok E_flds mixed T35z_ok
theorem S35z_ok : SpecOK Try.prog 35 S35z := inlineK_ok C35z_ok Try.func35 (fun _ _ => LoopsOK.none _)
noncomputable def T41z : List (FuncId × FSpec) := []
theorem T41z_ok : TabOK Try.prog T41z := TabOK.nil _
noncomputable def C41z : Ctx := (ctx E T41z [] [(0, [1, 2]), (1, [3])] [] 8 70)
noncomputable def S41z : FSpec := inlineK C41z Try.f41
theorem C41z_ok : CtxOK Try.prog C41z := ctx_ok E_ok E_flds mixed T41z_ok
theorem S41z_ok : SpecOK Try.prog 41 S41z := inlineK_ok C41z_ok Try.func41 (fun _ _ => LoopsOK.none _)
noncomputable def T52z : List (FuncId × FSpec) := []
theorem T52z_ok : TabOK Try.prog T52z := TabOK.nil _
noncomputable def C52z : Ctx := (ctx E T52z [] [(0, [1, 2, 3]), (1, [4])] [] 15 70)
noncomputable def S52z : FSpec := inlineK C52z Try.f52
theorem C52z_ok : CtxOK Try.prog C52z := ctx_ok E_ok E_flds mixed T52z_ok
theorem S52z_ok : SpecOK Try.prog 52 S52z := inlineK_ok C52z_ok Try.func52 (fun _ _ => LoopsOK.none _)
noncomputable def T34z : List (FuncId × FSpec) := []
theorem T34z_ok : TabOK Try.prog T34z := TabOK.nil _
noncomputable def C34z : Ctx := (ctx E T34z [] [(0, [1, 2, 3]), (1, [4])] [] 16 70)
noncomputable def S34z : FSpec := inlineK C34z Try.f34
theorem C34z_ok : CtxOK Try.prog C34z := ctx_ok E_ok E_flds mixed T34z_ok
theorem S34z_ok : SpecOK Try.prog 34 S34z := inlineK_ok C34z_ok Try.func34 (fun _ _ => LoopsOK.none _)
noncomputable def T51z : List (FuncId × FSpec) := [(41, S41z), (52, S52z), (34, S34z)]
theorem T51z_ok : TabOK Try.prog T51z := TabOK.cons En41 S41z_ok (TabOK.cons En52 S52z_ok (TabOK.cons En34 S34z_ok (TabOK.nil _)))
noncomputable def C51z : Ctx := (ctx E T51z [] [(0, [0, 1]), (1, [0, 1, 7, 8]), (2, [0, 1, 7, 8, 9]), (3, [0, 1, 5, 7, 8]), (4, [0, 1, 5, 7, 8, 16]), (5, [4]), (6, [0, 1, 7, 8]), (7, [4]), (1000002, [0, 1, 7, 8])] [] 19 70)
noncomputable def S51z : FSpec := inlineK C51z Try.f51
theorem C51z_ok : CtxOK Try.prog C51z := ctx_ok E_ok E_flds mixed T51z_ok
theorem S51z_ok : SpecOK Try.prog 51 S51z := inlineK_ok C51z_ok Try.func51 (fun _ _ => LoopsOK.none _)
noncomputable def T40z : List (FuncId × FSpec) := [(51, S51z), (41, S41z)]
theorem T40z_ok : TabOK Try.prog T40z := TabOK.cons En51 S51z_ok (TabOK.cons En41 S41z_ok (TabOK.nil _))
noncomputable def C40z : Ctx := (ctx E T40z [] [(0, [0, 1]), (1, [0, 1, 5]), (2, [0, 1, 5, 12]), (3, [4]), (4, [0, 1, 5, 6]), (5, [0, 1, 5, 6, 19]), (6, [0, 1, 5, 6]), (7, [0, 1, 5, 6, 7]), (8, [0, 1, 5, 6, 7, 29]), (9, [0, 1, 5, 6]), (10, [0, 1, 5, 6]), (11, [0, 5]), (12, [4]), (1000005, [0, 1, 5, 6])] [] 42 70)
noncomputable def S40z : FSpec := inlineK C40z Try.f40
theorem C40z_ok : CtxOK Try.prog C40z := ctx_ok E_ok E_flds mixed T40z_ok
theorem S40z_ok : SpecOK Try.prog 40 S40z := inlineK_ok C40z_ok Try.func40 (fun _ _ => LoopsOK.none _)
noncomputable def T33z : List (FuncId × FSpec) := [(51, S51z)]
theorem T33z_ok : TabOK Try.prog T33z := TabOK.cons En51 S51z_ok (TabOK.nil _)
noncomputable def C33z : Ctx := (ctx E T33z [] [(0, [0, 1]), (1, [4])] [] 9 70)
noncomputable def S33z : FSpec := inlineK C33z Try.f33
theorem C33z_ok : CtxOK Try.prog C33z := ctx_ok E_ok E_flds mixed T33z_ok
theorem S33z_ok : SpecOK Try.prog 33 S33z := inlineK_ok C33z_ok Try.func33 (fun _ _ => LoopsOK.none _)
noncomputable def T38z : List (FuncId × FSpec) := [(33, S33z), (52, S52z)]
theorem T38z_ok : TabOK Try.prog T38z := TabOK.cons En33 S33z_ok (TabOK.cons En52 S52z_ok (TabOK.nil _))
noncomputable def C38z : Ctx := (ctx E T38z [] [(0, [0, 4, 5]), (1, [6])] [] 13 70)
noncomputable def S38z : FSpec := inlineK C38z Try.f38
theorem C38z_ok : CtxOK Try.prog C38z := ctx_ok E_ok E_flds mixed T38z_ok
theorem S38z_ok : SpecOK Try.prog 38 S38z := inlineK_ok C38z_ok Try.func38 (fun _ _ => LoopsOK.none _)
noncomputable def T43z : List (FuncId × FSpec) := [(38, S38z)]
theorem T43z_ok : TabOK Try.prog T43z := TabOK.cons En38 S38z_ok (TabOK.nil _)
noncomputable def C43z : Ctx := (ctx E T43z [] [(0, [1, 2, 3]), (1, [4])] [] 10 70)
noncomputable def S43z : FSpec := inlineK C43z Try.f43
theorem C43z_ok : CtxOK Try.prog C43z := ctx_ok E_ok E_flds mixed T43z_ok
theorem S43z_ok : SpecOK Try.prog 43 S43z := inlineK_ok C43z_ok Try.func43 (fun _ _ => LoopsOK.none _)
noncomputable def T45z : List (FuncId × FSpec) := []
theorem T45z_ok : TabOK Try.prog T45z := TabOK.nil _
noncomputable def C45z : Ctx := (ctx E T45z [] [(0, [1, 2, 3, 4]), (1, [5])] [] 22 70)
noncomputable def S45z : FSpec := inlineK C45z Try.f45
theorem C45z_ok : CtxOK Try.prog C45z := ctx_ok E_ok E_flds mixed T45z_ok
theorem S45z_ok : SpecOK Try.prog 45 S45z := inlineK_ok C45z_ok Try.func45 (fun _ _ => LoopsOK.none _)
noncomputable def T50z : List (FuncId × FSpec) := []
theorem T50z_ok : TabOK Try.prog T50z := TabOK.nil _
noncomputable def C50z : Ctx := (ctx E T50z [] [(0, [1, 2, 3, 4]), (1, [5])] [] 22 70)
noncomputable def S50z : FSpec := inlineK C50z Try.f50
theorem C50z_ok : CtxOK Try.prog C50z := ctx_ok E_ok E_flds mixed T50z_ok
theorem S50z_ok : SpecOK Try.prog 50 S50z := inlineK_ok C50z_ok Try.func50 (fun _ _ => LoopsOK.none _)
noncomputable def T53z : List (FuncId × FSpec) := [(43, S43z), (45, S45z), (50, S50z)]
theorem T53z_ok : TabOK Try.prog T53z := TabOK.cons En43 S43z_ok (TabOK.cons En45 S45z_ok (TabOK.cons En50 S50z_ok (TabOK.nil _)))
noncomputable def C53z : Ctx := (ctx E T53z [] [(0, [0, 1]), (1, [0, 1, 7, 8]), (2, [0, 1, 7, 8, 9]), (3, [0, 1, 5, 7, 8]), (4, [0, 1, 5, 7, 8, 16]), (5, [4]), (6, [0, 1, 7, 8]), (7, [4]), (1000002, [0, 1, 7, 8])] [] 19 70)
noncomputable def S53z : FSpec := inlineK C53z Try.f53
theorem C53z_ok : CtxOK Try.prog C53z := ctx_ok E_ok E_flds mixed T53z_ok
theorem S53z_ok : SpecOK Try.prog 53 S53z := inlineK_ok C53z_ok Try.func53 (fun _ _ => LoopsOK.none _)
noncomputable def T42z : List (FuncId × FSpec) := [(53, S53z), (43, S43z)]
theorem T42z_ok : TabOK Try.prog T42z := TabOK.cons En53 S53z_ok (TabOK.cons En43 S43z_ok (TabOK.nil _))
noncomputable def C42z : Ctx := (ctx E T42z [] [(0, [0, 1]), (1, [0, 1, 5]), (2, [0, 1, 5, 12]), (3, [4]), (4, [0, 1, 5, 6]), (5, [0, 1, 5, 6, 19]), (6, [0, 1, 5, 6]), (7, [0, 1, 5, 6, 7]), (8, [0, 1, 5, 6, 7, 29]), (9, [0, 1, 5, 6]), (10, [0, 1, 5, 6]), (11, [0, 5]), (12, [4]), (1000005, [0, 1, 5, 6])] [] 42 70)
noncomputable def S42z : FSpec := inlineK C42z Try.f42
theorem C42z_ok : CtxOK Try.prog C42z := ctx_ok E_ok E_flds mixed T42z_ok
theorem S42z_ok : SpecOK Try.prog 42 S42z := inlineK_ok C42z_ok Try.func42 (fun _ _ => LoopsOK.none _)
noncomputable def T24z : List (FuncId × FSpec) := [(35, S35z), (40, S40z), (41, S41z), (42, S42z), (43, S43z)]
theorem T24z_ok : TabOK Try.prog T24z := TabOK.cons En35 S35z_ok (TabOK.cons En40 S40z_ok (TabOK.cons En41 S41z_ok (TabOK.cons En42 S42z_ok (TabOK.cons En43 S43z_ok (TabOK.nil _)))))
noncomputable def C24z : Ctx := (ctx E T24z [] [(0, [2, 3]), (1, [2, 3, 7]), (2, [4]), (3, [2, 3, 17]), (4, [4]), (5, [2, 3]), (6, [2, 3]), (7, []), (8, [4])] [40, 42] 40 70)
noncomputable def S24z : FSpec := inlineK C24z Try.f24
theorem C24z_ok : CtxOK Try.prog C24z := ctx_ok E_ok E_flds mixed T24z_ok
theorem S24z_ok : SpecOK Try.prog 24 S24z := inlineK_ok C24z_ok Try.func24 (fun _ _ => LoopsOK.none _)
noncomputable def T25z : List (FuncId × FSpec) := []
theorem T25z_ok : TabOK Try.prog T25z := TabOK.nil _
noncomputable def C25z : Ctx := (ctx E T25z [] [(0, [0]), (1, [0, 3]), (2, [0, 3, 4]), (3, [0, 3, 6]), (4, [0, 3, 8]), (5, [0, 10]), (6, [2]), (7, [2]), (8, [2])] [] 13 70)
noncomputable def S25z : FSpec := inlineK C25z Try.f25
theorem C25z_ok : CtxOK Try.prog C25z := ctx_ok E_ok E_flds mixed T25z_ok
theorem S25z_ok : SpecOK Try.prog 25 S25z := inlineK_ok C25z_ok Try.func25 (fun _ _ => LoopsOK.none _)
noncomputable def T44z : List (FuncId × FSpec) := [(53, S53z), (45, S45z), (50, S50z)]
theorem T44z_ok : TabOK Try.prog T44z := TabOK.cons En53 S53z_ok (TabOK.cons En45 S45z_ok (TabOK.cons En50 S50z_ok (TabOK.nil _)))
noncomputable def C44z : Ctx := (ctx E T44z [] [(0, [0, 1, 4]), (1, [0, 4, 6]), (2, [0, 4, 6, 11]), (3, [4, 5]), (4, [4, 5])] [] 17 70)
noncomputable def S44z : FSpec := inlineK C44z Try.f44
theorem C44z_ok : CtxOK Try.prog C44z := ctx_ok E_ok E_flds mixed T44z_ok
theorem S44z_ok : SpecOK Try.prog 44 S44z := inlineK_ok C44z_ok Try.func44 (fun _ _ => LoopsOK.none _)
noncomputable def T26z : List (FuncId × FSpec) := [(44, S44z), (45, S45z)]
theorem T26z_ok : TabOK Try.prog T26z := TabOK.cons En44 S44z_ok (TabOK.cons En45 S45z_ok (TabOK.nil _))
noncomputable def C26z : Ctx := (ctx E T26z [] [(0, [0, 5, 6, 7, 8]), (1, [8, 9])] [] 18 70)
noncomputable def S26z : FSpec := inlineK C26z Try.f26
theorem C26z_ok : CtxOK Try.prog C26z := ctx_ok E_ok E_flds mixed T26z_ok
theorem S26z_ok : SpecOK Try.prog 26 S26z := inlineK_ok C26z_ok Try.func26 (fun _ _ => LoopsOK.none _)
noncomputable def T27z : List (FuncId × FSpec) := []
theorem T27z_ok : TabOK Try.prog T27z := TabOK.nil _
noncomputable def C27z : Ctx := (ctx E T27z [] [(0, [0, 3, 5, 6]), (1, [0, 3, 5, 6, 15, 16]), (2, [0, 3, 5, 6, 15, 16, 17]), (3, [0, 3, 5, 6, 9, 15, 16]), (4, [0, 3, 5, 6, 10, 15, 16]), (5, [0, 3, 5, 6, 10, 15, 16, 46]), (6, [8]), (7, [0, 3, 5, 6, 15, 16]), (8, [8]), (1000002, [0, 3, 5, 6, 15, 16])] [] 49 70)
noncomputable def S27z : FSpec := inlineK C27z Try.f27
theorem C27z_ok : CtxOK Try.prog C27z := ctx_ok E_ok E_flds mixed T27z_ok
theorem S27z_ok : SpecOK Try.prog 27 S27z := inlineK_ok C27z_ok Try.func27 (fun _ _ => LoopsOK.none _)
noncomputable def T49z : List (FuncId × FSpec) := [(20, S20z)]
theorem T49z_ok : TabOK Try.prog T49z := TabOK.cons En20 S20z_ok (TabOK.nil _)
noncomputable def C49z : Ctx := (ctx E T49z [] [(0, [1, 2]), (1, [1, 2, 6]), (2, [1, 2, 6, 10]), (3, [4, 5]), (4, [2, 12]), (5, [2, 12, 13]), (6, [4, 5]), (7, [2, 12, 17]), (8, [4, 5]), (9, [2, 12, 21]), (10, [4, 5]), (11, [2, 12, 25]), (12, [2, 12, 25]), (13, [2, 12, 25]), (14, [4, 5]), (15, [2, 12, 31]), (16, [2, 31]), (17, [4, 5]), (18, [4, 5])] [] 36 70)
noncomputable def S49z : FSpec := inlineK C49z Try.f49
theorem C49z_ok : CtxOK Try.prog C49z := ctx_ok E_ok E_flds mixed T49z_ok
theorem S49z_ok : SpecOK Try.prog 49 S49z := inlineK_ok C49z_ok Try.func49 (fun _ _ => LoopsOK.none _)
noncomputable def T31z : List (FuncId × FSpec) := [(49, S49z)]
theorem T31z_ok : TabOK Try.prog T31z := TabOK.cons En49 S49z_ok (TabOK.nil _)
noncomputable def C31z : Ctx := (ctx E T31z [] [(0, [0, 1]), (1, [0, 5]), (2, [4])] [] 24 70)
noncomputable def S31z : FSpec := inlineK C31z Try.f31
theorem C31z_ok : CtxOK Try.prog C31z := ctx_ok E_ok E_flds mixed T31z_ok
theorem S31z_ok : SpecOK Try.prog 31 S31z := inlineK_ok C31z_ok Try.func31 (fun _ _ => LoopsOK.none _)
noncomputable def T54z : List (FuncId × FSpec) := []
theorem T54z_ok : TabOK Try.prog T54z := TabOK.nil _
noncomputable def C54z : Ctx := (ctx E T54z [] [(0, [0, 1]), (1, [4])] [] 9 70)
noncomputable def S54z : FSpec := inlineK C54z Try.f54
theorem C54z_ok : CtxOK Try.prog C54z := ctx_ok E_ok E_flds mixed T54z_ok
theorem S54z_ok : SpecOK Try.prog 54 S54z := inlineK_ok C54z_ok Try.func54 (fun _ _ => LoopsOK.none _)
noncomputable def T47z : List (FuncId × FSpec) := [(54, S54z)]
theorem T47z_ok : TabOK Try.prog T47z := TabOK.cons En54 S54z_ok (TabOK.nil _)
noncomputable def C47z : Ctx := (ctx E T47z [] [(0, [0]), (1, [2])] [] 10 70)
noncomputable def S47z : FSpec := inlineK C47z Try.f47
theorem C47z_ok : CtxOK Try.prog C47z := ctx_ok E_ok E_flds mixed T47z_ok
theorem S47z_ok : SpecOK Try.prog 47 S47z := inlineK_ok C47z_ok Try.func47 (fun _ _ => LoopsOK.none _)
noncomputable def T46z : List (FuncId × FSpec) := [(47, S47z), (54, S54z)]
theorem T46z_ok : TabOK Try.prog T46z := TabOK.cons En47 S47z_ok (TabOK.cons En54 S54z_ok (TabOK.nil _))
noncomputable def C46z : Ctx := (ctx E T46z [] [(0, [0, 1, 2]), (1, [0, 1, 2, 8, 9]), (2, [0, 1, 2, 8, 9, 14]), (3, [0, 1, 2, 8, 9, 14, 15]), (4, [0, 1, 2, 8, 9, 14, 17]), (5, [0, 1, 2, 8, 9, 14, 19]), (6, [0, 1, 8, 9, 14, 21]), (7, [0, 1, 8, 9, 14, 23]), (8, [0, 1, 8, 9, 14, 25]), (9, [0, 9, 27]), (10, [6, 7]), (11, [0, 2, 35]), (12, [6, 7]), (13, [6, 7]), (14, [0, 1, 8, 39]), (15, [6, 7]), (16, [0, 8, 41]), (17, [6, 7]), (18, [0, 46]), (19, [6, 7]), (20, [6, 7]), (21, [0, 1, 8, 49]), (22, [6, 7]), (23, [0, 51]), (24, [6, 7]), (25, [6, 7]), (26, [0, 61]), (27, [6, 7]), (28, [6, 7])] [] 63 70)
noncomputable def S46z : FSpec := inlineK C46z Try.f46
theorem C46z_ok : CtxOK Try.prog C46z := ctx_ok E_ok E_flds mixed T46z_ok
theorem S46z_ok : SpecOK Try.prog 46 S46z := inlineK_ok C46z_ok Try.func46 (fun _ _ => LoopsOK.none _)
noncomputable def T28z : List (FuncId × FSpec) := [(31, S31z), (46, S46z)]
theorem T28z_ok : TabOK Try.prog T28z := TabOK.cons En31 S31z_ok (TabOK.cons En46 S46z_ok (TabOK.nil _))
noncomputable def C28z : Ctx := (ctx E T28z [] [(0, [0, 1, 8, 9]), (1, [0, 1, 8, 9]), (2, [0, 1, 8, 24]), (3, [])] [] 31 70)
noncomputable def S28z : FSpec := inlineK C28z Try.f28
theorem C28z_ok : CtxOK Try.prog C28z := ctx_ok E_ok E_flds mixed T28z_ok
theorem S28z_ok : SpecOK Try.prog 28 S28z := inlineK_ok C28z_ok Try.func28 (fun _ _ => LoopsOK.none _)
noncomputable def T29z : List (FuncId × FSpec) := [(47, S47z)]
theorem T29z_ok : TabOK Try.prog T29z := TabOK.cons En47 S47z_ok (TabOK.nil _)
noncomputable def C29z : Ctx := (ctx E T29z [] [(0, [0, 1]), (1, [1, 6]), (2, [1, 6, 7]), (3, [1, 6, 9]), (4, [1, 6, 11]), (5, [1, 13]), (6, [4, 5]), (7, [4, 5]), (8, [17]), (9, [4, 5]), (10, [4, 5]), (11, [4, 5])] [] 18 70)
noncomputable def S29z : FSpec := inlineK C29z Try.f29
theorem C29z_ok : CtxOK Try.prog C29z := ctx_ok E_ok E_flds mixed T29z_ok
theorem S29z_ok : SpecOK Try.prog 29 S29z := inlineK_ok C29z_ok Try.func29 (fun _ _ => LoopsOK.none _)
noncomputable def T48z : List (FuncId × FSpec) := []
theorem T48z_ok : TabOK Try.prog T48z := TabOK.nil _
noncomputable def C48z : Ctx := (ctx E T48z [] [(0, [1, 2, 3, 4]), (1, [6])] [] 14 70)
noncomputable def S48z : FSpec := inlineK C48z Try.f48
theorem C48z_ok : CtxOK Try.prog C48z := ctx_ok E_ok E_flds mixed T48z_ok
theorem S48z_ok : SpecOK Try.prog 48 S48z := inlineK_ok C48z_ok Try.func48 (fun _ _ => LoopsOK.none _)
noncomputable def T30z : List (FuncId × FSpec) := [(48, S48z), (48, S48z)]
theorem T30z_ok : TabOK Try.prog T30z := TabOK.cons En48 S48z_ok (TabOK.cons En48 S48z_ok (TabOK.nil _))
noncomputable def C30z : Ctx := (ctx E T30z [] [(0, [0, 2, 4, 6]), (1, [0, 2, 4, 6, 9]), (2, [0, 2, 4, 6, 9, 22, 23, 24]), (3, [0, 2, 4, 6, 9, 22, 23, 24, 25]), (4, [0, 2, 4, 6, 9, 11, 22, 23, 24]), (5, [0, 2, 4, 6, 9, 22, 23, 24]), (6, [0, 2, 4, 6, 9, 22, 23, 24]), (7, [0, 2, 6, 12]), (8, [0, 2, 6, 12, 53]), (9, [0, 2, 6, 12, 58, 59, 60]), (10, [0, 2, 6, 12, 58, 59, 60, 61]), (11, [0, 2, 6, 12, 14, 58, 59, 60]), (12, [0, 2, 6, 12, 14, 58, 59, 60, 68]), (13, [6, 7, 8]), (14, [0, 2, 6, 12, 58, 59, 60]), (15, [0, 6, 12, 76, 77, 78]), (16, [0, 6, 12, 76, 77, 78, 79]), (17, [0, 6, 12, 16, 76, 77, 78]), (18, [0, 6, 12, 16, 17, 76, 77, 78]), (19, [0, 6, 12, 16, 17, 76, 77, 78, 95]), (20, [0, 6, 12, 16, 17, 76, 77, 78]), (21, [0, 6, 12, 16, 17, 76, 77, 78, 103]), (22, [6, 7, 8]), (23, [0, 6, 12, 76, 77, 78]), (24, [6, 7, 8]), (1000003, [0, 2, 4, 6, 9, 22, 23, 24]), (1000010, [0, 2, 6, 12, 58, 59, 60]), (1000016, [0, 6, 12, 76, 77, 78]), (1000019, [0, 6, 12, 16, 17, 76, 77, 78])] [] 109 70)
noncomputable def S30z : FSpec := inlineK C30z Try.f30
theorem C30z_ok : CtxOK Try.prog C30z := ctx_ok E_ok E_flds mixed T30z_ok
theorem S30z_ok : SpecOK Try.prog 30 S30z := inlineK_ok C30z_ok Try.func30 (fun _ _ => LoopsOK.none _)
noncomputable def T10z : List (FuncId × FSpec) := [(24, S24z), (25, S25z), (26, S26z), (27, S27z), (28, S28z), (29, S29z), (30, S30z), (31, S31z)]
theorem T10z_ok : TabOK Try.prog T10z := TabOK.cons En24 S24z_ok (TabOK.cons En25 S25z_ok (TabOK.cons En26 S26z_ok (TabOK.cons En27 S27z_ok (TabOK.cons En28 S28z_ok (TabOK.cons En29 S29z_ok (TabOK.cons En30 S30z_ok (TabOK.cons En31 S31z_ok (TabOK.nil _))))))))
noncomputable def C10z : Ctx := (ctx E T10z [] [(0, [0, 1, 3, 6, 8]), (1, [0, 3, 6, 8, 11]), (2, [0, 3, 6, 8, 11, 25]), (3, [8, 9, 10]), (4, [0, 3, 6, 8, 12]), (5, [0, 3, 6, 8, 12, 32]), (6, [8, 9, 10]), (7, [0, 3, 6, 8, 12, 35]), (8, [0, 3, 6, 8, 12]), (9, [0, 3, 6, 8, 12, 13, 14]), (10, [0, 3, 6, 8, 12, 13, 14, 47]), (11, [0, 3, 6, 8, 12, 13, 14, 15]), (12, [0, 3, 6, 8, 12, 13, 14, 15, 56]), (13, [8, 13]), (14, [8, 9, 10]), (15, [0, 6, 8, 12, 13, 14, 16, 17]), (16, [0, 6, 8, 12, 13, 14, 16, 17, 72]), (17, [8, 9, 10]), (18, [0, 6, 8, 12, 13, 14, 16, 85]), (19, [8, 9, 10]), (20, [0, 6, 8, 12, 13, 16, 88]), (21, [0, 6, 8, 12, 13, 16, 99]), (22, [8, 9, 10]), (23, [0, 6, 8, 12, 13, 16, 18, 19, 20]), (24, [0, 6, 8, 12, 13, 16, 18, 19, 111]), (25, [8, 9, 10]), (26, [0, 6, 8, 13, 16]), (27, [0, 6, 8, 13, 16]), (28, [8, 13]), (29, [8, 9, 10])] [1000031] 154 70)
noncomputable def S10z : FSpec := inlineK C10z Try.f10
theorem C10z_ok : CtxOK Try.prog C10z := ctx_ok E_ok E_flds mixed T10z_ok
theorem S10z_ok : SpecOK Try.prog 10 S10z := inlineK_ok C10z_ok Try.func10 (fun _ _ => LoopsOK.none _)
noncomputable def T32z : List (FuncId × FSpec) := [(44, S44z), (50, S50z)]
theorem T32z_ok : TabOK Try.prog T32z := TabOK.cons En44 S44z_ok (TabOK.cons En50 S50z_ok (TabOK.nil _))
noncomputable def C32z : Ctx := (ctx E T32z [] [(0, [0, 5, 6, 7, 8]), (1, [8, 9])] [] 18 70)
noncomputable def S32z : FSpec := inlineK C32z Try.f32
theorem C32z_ok : CtxOK Try.prog C32z := ctx_ok E_ok E_flds mixed T32z_ok
theorem S32z_ok : SpecOK Try.prog 32 S32z := inlineK_ok C32z_ok Try.func32 (fun _ _ => LoopsOK.none _)
noncomputable def T12z : List (FuncId × FSpec) := [(24, S24z), (25, S25z), (27, S27z), (28, S28z), (29, S29z), (31, S31z), (32, S32z), (33, S33z), (34, S34z)]
theorem T12z_ok : TabOK Try.prog T12z := TabOK.cons En24 S24z_ok (TabOK.cons En25 S25z_ok (TabOK.cons En27 S27z_ok (TabOK.cons En28 S28z_ok (TabOK.cons En29 S29z_ok (TabOK.cons En31 S31z_ok (TabOK.cons En32 S32z_ok (TabOK.cons En33 S33z_ok (TabOK.cons En34 S34z_ok (TabOK.nil _)))))))))
noncomputable def C12z : Ctx := (ctx E T12z [] [(0, [0, 1, 3, 6, 8]), (1, [0, 3, 6, 8, 11]), (2, [0, 3, 6, 8, 11, 23]), (3, [8, 9, 10]), (4, [0, 3, 6, 8, 12]), (5, [0, 3, 6, 8, 12, 30]), (6, [8, 9, 10]), (7, [0, 3, 6, 8, 12, 33]), (8, [0, 3, 6, 8, 12]), (9, [0, 3, 6, 8, 12, 13, 14]), (10, [0, 3, 6, 8, 12, 13, 46]), (11, [8, 9, 10]), (12, [0, 3, 6, 8, 12, 13, 15]), (13, [0, 3, 6, 8, 12, 13, 15, 56]), (14, [8, 13]), (15, [8, 9, 10]), (16, [0, 3, 6, 8, 12, 13, 16]), (17, [0, 3, 6, 8, 12, 13, 83]), (18, [8, 9, 10]), (19, [0, 3, 6, 8, 12, 13, 95]), (20, [8, 9, 10]), (21, [0, 6, 8, 13, 17]), (22, [8, 13]), (23, [8, 9, 10])] [1000031] 126 70)
noncomputable def S12z : FSpec := inlineK C12z Try.f12
theorem C12z_ok : CtxOK Try.prog C12z := ctx_ok E_ok E_flds mixed T12z_ok
theorem S12z_ok : SpecOK Try.prog 12 S12z := inlineK_ok C12z_ok Try.func12 (fun _ _ => LoopsOK.none _)
noncomputable def T23z : List (FuncId × FSpec) := []
theorem T23z_ok : TabOK Try.prog T23z := TabOK.nil _
noncomputable def C23z : Ctx := (ctx E T23z [] [(0, [0]), (1, [0])] [] 5 70)
noncomputable def S23z : FSpec := inlineK C23z Try.f23
theorem C23z_ok : CtxOK Try.prog C23z := ctx_ok E_ok E_flds mixed T23z_ok
theorem S23z_ok : SpecOK Try.prog 23 S23z := inlineK_ok C23z_ok Try.func23 (fun _ _ => LoopsOK.none _)
/-- ferryman/ferrymanlaw21.alive -/
noncomputable def T8 : List (FuncId × FSpec) := [(7, S7z), (10, S10z), (12, S12z), (23, S23z)]
theorem T8_ok : TabOK Try.prog T8 := TabOK.cons En7 S7z_ok (TabOK.cons En10 S10z_ok (TabOK.cons En12 S12z_ok (TabOK.cons En23 S23z_ok (TabOK.nil _))))
noncomputable def C8 : Ctx := (ctx E T8 [] [(0, []), (1, [1, 2]), (2, [1, 26]), (3, [0]), (4, [1, 3]), (5, [1, 3, 4, 5, 6]), (6, [1, 3, 4, 5, 6]), (7, [1, 4, 5, 6, 8, 9]), (8, [1, 4, 5, 6, 8, 9, 10, 11, 12]), (9, [5, 6, 8, 9, 10, 11, 12, 15]), (10, [0])] [7] 97 70)
theorem C8_ok : CtxOK Try.prog C8 := ctx_ok E_ok E_flds mixed T8_ok
noncomputable def B8 : FSpec := inlineK C8 Try.f8
noncomputable def S8 : FSpec := constK (AV.bool true)
theorem B8_ok : SpecOK Try.prog 8 B8 := inlineK_ok C8_ok Try.func8 (fun _ _ => LoopsOK.none _)
theorem B8_is (k : KE) : B8 [] [] k = k (.ret (AV.bool true)) [] := by kernel_rfl
theorem S8_ok : SpecOK Try.prog 8 S8 := constK_ok B8_ok B8_is
theorem En8 : Enters Try.prog 8 := ⟨_, Try.func8, by decide, rfl⟩

/-- slices.Clone[[]ferryman/api.Binding,ferryman/api.Binding] -/
noncomputable def T36 : List (FuncId × FSpec) := []
theorem T36_ok : TabOK Try.prog T36 := TabOK.nil _
noncomputable def C36 : Ctx := (ctx E T36 [] [(0, [0]), (1, [0, 4]), (2, [2]), (3, [2])] [] 8 70)
theorem C36_ok : CtxOK Try.prog C36 := ctx_ok E_ok E_flds mixed T36_ok
noncomputable def S36 : FSpec := inlineK C36 Try.f36
theorem S36_ok : SpecOK Try.prog 36 S36 := inlineK_ok C36_ok Try.func36 (fun _ _ => LoopsOK.none _)
theorem En36 : Enters Try.prog 36 := ⟨_, Try.func36, by decide, rfl⟩

/-- (*ferryman/plat.Table).Bindings -/
noncomputable def T14 : List (FuncId × FSpec) := [(35, S35), (36, S36)]
theorem T14_ok : TabOK Try.prog T14 := TabOK.cons En35 S35_ok (TabOK.cons En36 S36_ok (TabOK.nil _))
noncomputable def C14 : Ctx := (ctx E T14 [] [(0, [0]), (1, [0, 5]), (2, [2]), (3, [2])] [] 11 70)
theorem C14_ok : CtxOK Try.prog C14 := ctx_ok E_ok E_flds mixed T14_ok
noncomputable def S14 : FSpec := inlineK C14 Try.f14
theorem S14_ok : SpecOK Try.prog 14 S14 := inlineK_ok C14_ok Try.func14 (fun _ _ => LoopsOK.none _)
theorem En14 : Enters Try.prog 14 := ⟨_, Try.func14, by decide, rfl⟩

/-- slices.Clone[[]ferryman/api.Session,ferryman/api.Session] -/
noncomputable def T37 : List (FuncId × FSpec) := []
theorem T37_ok : TabOK Try.prog T37 := TabOK.nil _
noncomputable def C37 : Ctx := (ctx E T37 [] [(0, [0]), (1, [0, 4]), (2, [2]), (3, [2])] [] 8 70)
theorem C37_ok : CtxOK Try.prog C37 := ctx_ok E_ok E_flds mixed T37_ok
noncomputable def S37 : FSpec := inlineK C37 Try.f37
theorem S37_ok : SpecOK Try.prog 37 S37 := inlineK_ok C37_ok Try.func37 (fun _ _ => LoopsOK.none _)
theorem En37 : Enters Try.prog 37 := ⟨_, Try.func37, by decide, rfl⟩

/-- (*ferryman/plat.Table).Sessions -/
noncomputable def T15 : List (FuncId × FSpec) := [(35, S35), (37, S37)]
theorem T15_ok : TabOK Try.prog T15 := TabOK.cons En35 S35_ok (TabOK.cons En37 S37_ok (TabOK.nil _))
noncomputable def C15 : Ctx := (ctx E T15 [] [(0, [0]), (1, [0, 5]), (2, [2]), (3, [2])] [] 11 70)
theorem C15_ok : CtxOK Try.prog C15 := ctx_ok E_ok E_flds mixed T15_ok
noncomputable def S15 : FSpec := inlineK C15 Try.f15
theorem S15_ok : SpecOK Try.prog 15 S15 := inlineK_ok C15_ok Try.func15 (fun _ _ => LoopsOK.none _)
theorem En15 : Enters Try.prog 15 := ⟨_, Try.func15, by decide, rfl⟩

/-- (*ferryman/plat.Table).Outside -/
noncomputable def T16 : List (FuncId × FSpec) := [(25, S25), (26, S26), (35, S35), (38, S38)]
theorem T16_ok : TabOK Try.prog T16 := TabOK.cons En25 S25_ok (TabOK.cons En26 S26_ok (TabOK.cons En35 S35_ok (TabOK.cons En38 S38_ok (TabOK.nil _))))
noncomputable def C16 : Ctx := (ctx E T16 [] [(0, [0, 1, 2, 4, 8, 10]), (1, [0, 1, 2, 4, 8, 10, 17]), (2, [10, 11, 12]), (3, [0, 1, 10, 13, 14]), (4, [10, 13, 36]), (5, [10, 11, 12]), (6, [10, 11, 12])] [] 42 70)
theorem C16_ok : CtxOK Try.prog C16 := ctx_ok E_ok E_flds mixed T16_ok
noncomputable def S16 : FSpec := inlineK C16 Try.f16
theorem S16_ok : SpecOK Try.prog 16 S16 := inlineK_ok C16_ok Try.func16 (fun _ _ => LoopsOK.none _)
theorem En16 : Enters Try.prog 16 := ⟨_, Try.func16, by decide, rfl⟩

/-- (*ferryman/plat.Table).Inside -/
noncomputable def T17 : List (FuncId × FSpec) := [(25, S25), (32, S32), (35, S35), (38, S38)]
theorem T17_ok : TabOK Try.prog T17 := TabOK.cons En25 S25_ok (TabOK.cons En32 S32_ok (TabOK.cons En35 S35_ok (TabOK.cons En38 S38_ok (TabOK.nil _))))
noncomputable def C17 : Ctx := (ctx E T17 [] [(0, [0, 1, 2, 4, 8, 10]), (1, [0, 1, 2, 4, 8, 10, 17]), (2, [10, 11, 12]), (3, [0, 1, 10, 13, 14]), (4, [10, 13, 36]), (5, [10, 11, 12]), (6, [10, 11, 12])] [] 42 70)
theorem C17_ok : CtxOK Try.prog C17 := ctx_ok E_ok E_flds mixed T17_ok
noncomputable def S17 : FSpec := inlineK C17 Try.f17
theorem S17_ok : SpecOK Try.prog 17 S17 := inlineK_ok C17_ok Try.func17 (fun _ _ => LoopsOK.none _)
theorem En17 : Enters Try.prog 17 := ⟨_, Try.func17, by decide, rfl⟩

/-- (*ferryman/plat.Table).Tick -/
noncomputable def T18 : List (FuncId × FSpec) := [(24, S24), (35, S35)]
theorem T18_ok : TabOK Try.prog T18 := TabOK.cons En24 S24_ok (TabOK.cons En35 S35_ok (TabOK.nil _))
noncomputable def C18 : Ctx := (ctx E T18 [] [(0, [0, 1]), (1, [0, 1, 6]), (2, [0, 1, 6, 9]), (3, [0, 1, 6]), (4, [0, 6, 7]), (5, [0, 6, 7, 19]), (6, [4, 5]), (7, [4, 5])] [] 28 70)
theorem C18_ok : CtxOK Try.prog C18 := ctx_ok E_ok E_flds mixed T18_ok
noncomputable def S18 : FSpec := inlineK C18 Try.f18
theorem S18_ok : SpecOK Try.prog 18 S18 := inlineK_ok C18_ok Try.func18 (fun _ _ => LoopsOK.none _)
theorem En18 : Enters Try.prog 18 := ⟨_, Try.func18, by decide, rfl⟩

/-- (*ferryman/plat.Table).Next -/
noncomputable def T19 : List (FuncId × FSpec) := [(35, S35)]
theorem T19_ok : TabOK Try.prog T19 := TabOK.cons En35 S35_ok (TabOK.nil _)
noncomputable def C19 : Ctx := (ctx E T19 [] [(0, [0]), (1, [0, 17]), (2, [2, 3]), (3, [0, 4]), (4, [4, 28, 29, 30]), (5, [4, 28, 29, 30, 31]), (6, [4, 6, 28, 29, 30]), (7, [4, 28, 29, 30]), (8, [4, 28, 29, 30]), (9, [2, 3]), (1000005, [4, 28, 29, 30])] [] 40 70)
theorem C19_ok : CtxOK Try.prog C19 := ctx_ok E_ok E_flds mixed T19_ok
noncomputable def S19 : FSpec := inlineK C19 Try.f19
theorem S19_ok : SpecOK Try.prog 19 S19 := inlineK_ok C19_ok Try.func19 (fun _ _ => LoopsOK.none _)
theorem En19 : Enters Try.prog 19 := ⟨_, Try.func19, by decide, rfl⟩

noncomputable def T36z : List (FuncId × FSpec) := []
theorem T36z_ok : TabOK Try.prog T36z := TabOK.nil _
noncomputable def C36z : Ctx := (ctx E T36z [] [(0, [0]), (1, [0, 4]), (2, [2]), (3, [2])] [] 8 70)
noncomputable def S36z : FSpec := inlineK C36z Try.f36
theorem C36z_ok : CtxOK Try.prog C36z := ctx_ok E_ok E_flds mixed T36z_ok
theorem S36z_ok : SpecOK Try.prog 36 S36z := inlineK_ok C36z_ok Try.func36 (fun _ _ => LoopsOK.none _)
noncomputable def T14z : List (FuncId × FSpec) := [(35, S35z), (36, S36z)]
theorem T14z_ok : TabOK Try.prog T14z := TabOK.cons En35 S35z_ok (TabOK.cons En36 S36z_ok (TabOK.nil _))
noncomputable def C14z : Ctx := (ctx E T14z [] [(0, [0]), (1, [0, 5]), (2, [2]), (3, [2])] [] 11 70)
noncomputable def S14z : FSpec := inlineK C14z Try.f14
theorem C14z_ok : CtxOK Try.prog C14z := ctx_ok E_ok E_flds mixed T14z_ok
theorem S14z_ok : SpecOK Try.prog 14 S14z := inlineK_ok C14z_ok Try.func14 (fun _ _ => LoopsOK.none _)
noncomputable def T37z : List (FuncId × FSpec) := []
theorem T37z_ok : TabOK Try.prog T37z := TabOK.nil _
noncomputable def C37z : Ctx := (ctx E T37z [] [(0, [0]), (1, [0, 4]), (2, [2]), (3, [2])] [] 8 70)
noncomputable def S37z : FSpec := inlineK C37z Try.f37
theorem C37z_ok : CtxOK Try.prog C37z := ctx_ok E_ok E_flds mixed T37z_ok
theorem S37z_ok : SpecOK Try.prog 37 S37z := inlineK_ok C37z_ok Try.func37 (fun _ _ => LoopsOK.none _)
noncomputable def T15z : List (FuncId × FSpec) := [(35, S35z), (37, S37z)]
theorem T15z_ok : TabOK Try.prog T15z := TabOK.cons En35 S35z_ok (TabOK.cons En37 S37z_ok (TabOK.nil _))
noncomputable def C15z : Ctx := (ctx E T15z [] [(0, [0]), (1, [0, 5]), (2, [2]), (3, [2])] [] 11 70)
noncomputable def S15z : FSpec := inlineK C15z Try.f15
theorem C15z_ok : CtxOK Try.prog C15z := ctx_ok E_ok E_flds mixed T15z_ok
theorem S15z_ok : SpecOK Try.prog 15 S15z := inlineK_ok C15z_ok Try.func15 (fun _ _ => LoopsOK.none _)
noncomputable def T16z : List (FuncId × FSpec) := [(25, S25z), (26, S26z), (35, S35z), (38, S38z)]
theorem T16z_ok : TabOK Try.prog T16z := TabOK.cons En25 S25z_ok (TabOK.cons En26 S26z_ok (TabOK.cons En35 S35z_ok (TabOK.cons En38 S38z_ok (TabOK.nil _))))
noncomputable def C16z : Ctx := (ctx E T16z [] [(0, [0, 1, 2, 4, 8, 10]), (1, [0, 1, 2, 4, 8, 10, 17]), (2, [10, 11, 12]), (3, [0, 1, 10, 13, 14]), (4, [10, 13, 36]), (5, [10, 11, 12]), (6, [10, 11, 12])] [] 42 70)
noncomputable def S16z : FSpec := inlineK C16z Try.f16
theorem C16z_ok : CtxOK Try.prog C16z := ctx_ok E_ok E_flds mixed T16z_ok
theorem S16z_ok : SpecOK Try.prog 16 S16z := inlineK_ok C16z_ok Try.func16 (fun _ _ => LoopsOK.none _)
noncomputable def T17z : List (FuncId × FSpec) := [(25, S25z), (32, S32z), (35, S35z), (38, S38z)]
theorem T17z_ok : TabOK Try.prog T17z := TabOK.cons En25 S25z_ok (TabOK.cons En32 S32z_ok (TabOK.cons En35 S35z_ok (TabOK.cons En38 S38z_ok (TabOK.nil _))))
noncomputable def C17z : Ctx := (ctx E T17z [] [(0, [0, 1, 2, 4, 8, 10]), (1, [0, 1, 2, 4, 8, 10, 17]), (2, [10, 11, 12]), (3, [0, 1, 10, 13, 14]), (4, [10, 13, 36]), (5, [10, 11, 12]), (6, [10, 11, 12])] [] 42 70)
noncomputable def S17z : FSpec := inlineK C17z Try.f17
theorem C17z_ok : CtxOK Try.prog C17z := ctx_ok E_ok E_flds mixed T17z_ok
theorem S17z_ok : SpecOK Try.prog 17 S17z := inlineK_ok C17z_ok Try.func17 (fun _ _ => LoopsOK.none _)
noncomputable def T18z : List (FuncId × FSpec) := [(24, S24z), (35, S35z)]
theorem T18z_ok : TabOK Try.prog T18z := TabOK.cons En24 S24z_ok (TabOK.cons En35 S35z_ok (TabOK.nil _))
noncomputable def C18z : Ctx := (ctx E T18z [] [(0, [0, 1]), (1, [0, 1, 6]), (2, [0, 1, 6, 9]), (3, [0, 1, 6]), (4, [0, 6, 7]), (5, [0, 6, 7, 19]), (6, [4, 5]), (7, [4, 5])] [] 28 70)
noncomputable def S18z : FSpec := inlineK C18z Try.f18
theorem C18z_ok : CtxOK Try.prog C18z := ctx_ok E_ok E_flds mixed T18z_ok
theorem S18z_ok : SpecOK Try.prog 18 S18z := inlineK_ok C18z_ok Try.func18 (fun _ _ => LoopsOK.none _)
noncomputable def T19z : List (FuncId × FSpec) := [(35, S35z)]
theorem T19z_ok : TabOK Try.prog T19z := TabOK.cons En35 S35z_ok (TabOK.nil _)
noncomputable def C19z : Ctx := (ctx E T19z [] [(0, [0]), (1, [0, 17]), (2, [2, 3]), (3, [0, 4]), (4, [4, 28, 29, 30]), (5, [4, 28, 29, 30, 31]), (6, [4, 6, 28, 29, 30]), (7, [4, 28, 29, 30]), (8, [4, 28, 29, 30]), (9, [2, 3]), (1000005, [4, 28, 29, 30])] [] 40 70)
noncomputable def S19z : FSpec := inlineK C19z Try.f19
theorem C19z_ok : CtxOK Try.prog C19z := ctx_ok E_ok E_flds mixed T19z_ok
theorem S19z_ok : SpecOK Try.prog 19 S19z := inlineK_ok C19z_ok Try.func19 (fun _ _ => LoopsOK.none _)
/-- ferryman/ferrymanlaw21.PlatNobody -/
noncomputable def T6 : List (FuncId × FSpec) := [(8, S8), (10, S10z), (12, S12z), (14, S14z), (15, S15z), (16, S16z), (17, S17z), (18, S18z), (19, S19z)]
theorem T6_ok : TabOK Try.prog T6 := TabOK.cons En8 S8_ok (TabOK.cons En10 S10z_ok (TabOK.cons En12 S12z_ok (TabOK.cons En14 S14z_ok (TabOK.cons En15 S15z_ok (TabOK.cons En16 S16z_ok (TabOK.cons En17 S17z_ok (TabOK.cons En18 S18z_ok (TabOK.cons En19 S19z_ok (TabOK.nil _)))))))))
noncomputable def C6 : Ctx := (ctx E T6 [] [(0, [0, 4, 5]), (1, [0, 4, 5, 7]), (2, [0, 4, 5, 29, 30, 31]), (3, [0, 4, 5, 29, 30, 31, 32]), (4, [0, 4, 5, 9, 29, 30, 31]), (5, [0, 4, 5, 9, 12, 29, 30, 31]), (6, [0, 4, 5, 9, 12, 15, 29, 30, 31]), (7, [0, 4, 5, 9, 12, 15, 17, 29, 30, 31]), (8, [0, 4, 5, 9, 12, 15, 17, 20, 29, 30, 31]), (9, [0, 4, 5, 9, 12, 15, 17, 20, 23, 29, 30, 31]), (10, [0, 4, 5, 9, 12, 15, 17, 20, 23, 25, 29, 30, 31]), (11, [0, 4, 5, 29, 30, 31, 116]), (12, [6]), (13, [0, 4, 5, 29, 30, 31]), (14, [6]), (1000003, [0, 4, 5, 29, 30, 31])] [1000010, 1000012, 1000014, 1000015, 1000016, 1000017, 1000018, 1000019] 119 70)
theorem C6_ok : CtxOK Try.prog C6 := ctx_ok E_ok E_flds mixed T6_ok
noncomputable def S6 : FSpec := inlineK C6 Try.f6
theorem S6_ok : SpecOK Try.prog 6 S6 := inlineK_ok C6_ok Try.func6 (fun _ _ => LoopsOK.none _)
theorem En6 : Enters Try.prog 6 := ⟨_, Try.func6, by decide, rfl⟩

end Go.Proofs.Ytdbkkgabcehknaa

