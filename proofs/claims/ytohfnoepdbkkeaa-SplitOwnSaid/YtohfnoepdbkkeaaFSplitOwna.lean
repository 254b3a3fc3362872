import Derived.Test.YtohfnoepdbkkeaaA20
import Derived.Test.YtohfnoepdbkkeaaRows
import Derived.Test.YtohfnoepdbkkeaaPFragAll
import Derived.Test.YtohfnoepdbkkeaaPOwn
namespace Go.Proofs.Ytohfnoepdbkkeaa
open Go.Abs Go.Pl

set_option maxRecDepth 10000 in
noncomputable def E : Env :=
  Env.mk [none, some (TI.mk (TypeDesc.func (Array.mk []) (Array.mk []) false) 1 8 [AV.nilf] true false [CK.other]), some (TI.mk (TypeDesc.int IntKind.i64) 1 8 [AV.int IntKind.i64 0] true true [CK.int IntKind.i64]), some (TI.mk (TypeDesc.int IntKind.i64) 1 8 [AV.int IntKind.i64 0] true true [CK.int IntKind.i64]), some (TI.mk TypeDesc.bool 1 1 [AV.bool false] true true [CK.bool]), some (TI.mk (TypeDesc.int IntKind.u8) 1 1 [AV.int IntKind.u8 0] true true [CK.int IntKind.u8]), some (TI.mk (TypeDesc.int IntKind.u8) 1 1 [AV.int IntKind.u8 0] true true [CK.int IntKind.u8]), some (TI.mk (TypeDesc.struct (Array.mk [Field.mk "x" 2 0 false "" "runtime" 0, Field.mk "y" 3 1 false "" "runtime" 8, Field.mk "signed" 4 2 false "" "runtime" 16, Field.mk "code" 6 3 false "" "runtime" 17])) 4 24 [AV.int IntKind.i64 0, AV.int IntKind.i64 0, AV.bool false, AV.int IntKind.u8 0] true true [CK.int IntKind.i64, CK.int IntKind.i64, CK.bool, CK.int IntKind.u8]), some (TI.mk (TypeDesc.struct (Array.mk [Field.mk "x" 2 0 false "" "runtime" 0, Field.mk "y" 3 1 false "" "runtime" 8, Field.mk "signed" 4 2 false "" "runtime" 16, Field.mk "code" 6 3 false "" "runtime" 17])) 4 24 [AV.int IntKind.i64 0, AV.int IntKind.i64 0, AV.bool false, AV.int IntKind.u8 0] true true [CK.int IntKind.i64, CK.int IntKind.i64, CK.bool, CK.int IntKind.u8]), some (TI.mk TypeDesc.string 1 16 [AV.str (ByteArray.mk (Array.mk []))] true true [CK.str]), some (TI.mk TypeDesc.string 1 16 [AV.str (ByteArray.mk (Array.mk []))] true true [CK.str]), some (TI.mk TypeDesc.string 1 16 [AV.str (ByteArray.mk (Array.mk []))] true true [CK.str]), some (TI.mk (TypeDesc.int IntKind.u64) 1 8 [AV.int IntKind.u64 0] true true [CK.int IntKind.u64]), some (TI.mk (TypeDesc.struct (Array.mk [Field.mk "msg" 9 0 false "" "runtime" 0, Field.mk "addr" 12 1 false "" "runtime" 16])) 2 24 [AV.str (ByteArray.mk (Array.mk [])), AV.int IntKind.u64 0] false true [CK.str, CK.int IntKind.u64]), some (TI.mk (TypeDesc.struct (Array.mk [Field.mk "msg" 9 0 false "" "runtime" 0, Field.mk "addr" 12 1 false "" "runtime" 16])) 2 24 [AV.str (ByteArray.mk (Array.mk [])), AV.int IntKind.u64 0] false true [CK.str, CK.int IntKind.u64]), some (TI.mk (TypeDesc.pointer 92) 1 8 [AV.nilp] true true [CK.other]), some (TI.mk (TypeDesc.pointer 95) 1 8 [AV.nilp] true true [CK.other]), some (TI.mk (TypeDesc.pointer 105) 1 8 [AV.nilp] true true [CK.other]), some (TI.mk (TypeDesc.struct (Array.mk [Field.mk "typ" 17 0 false "" "internal/runtime/maps" 0])) 1 8 [AV.nilp] false true [CK.other]), some (TI.mk (TypeDesc.struct (Array.mk [Field.mk "typ" 17 0 false "" "internal/runtime/maps" 0])) 1 8 [AV.nilp] false true [CK.other]), some (TI.mk (TypeDesc.interface (Array.mk [])) 1 16 [AV.nili] true true [CK.other]), some (TI.mk (TypeDesc.int IntKind.i32) 1 4 [AV.int IntKind.i32 0] true true [CK.int IntKind.i32]), some (TI.mk (TypeDesc.slice 5) 1 24 [AV.fs 1 [] SF.nil] true false [CK.slice 1]), some (TI.mk (TypeDesc.func (Array.mk [22]) (Array.mk [22]) false) 1 8 [AV.nilf] true false [CK.other]), some (TI.mk (TypeDesc.func (Array.mk []) (Array.mk [4]) false) 1 8 [AV.nilf] true false [CK.other]), some (TI.mk (TypeDesc.func (Array.mk [22]) (Array.mk [4]) false) 1 8 [AV.nilf] true false [CK.other]), some (TI.mk (TypeDesc.int IntKind.u16) 1 2 [AV.int IntKind.u16 0] true true [CK.int IntKind.u16]), some (TI.mk (TypeDesc.array 4 5) 4 4 [AV.int IntKind.u8 0, AV.int IntKind.u8 0, AV.int IntKind.u8 0, AV.int IntKind.u8 0] true true [CK.int IntKind.u8, CK.int IntKind.u8, CK.int IntKind.u8, CK.int IntKind.u8]), some (TI.mk (TypeDesc.array 4 5) 4 4 [AV.int IntKind.u8 0, AV.int IntKind.u8 0, AV.int IntKind.u8 0, AV.int IntKind.u8 0] true true [CK.int IntKind.u8, CK.int IntKind.u8, CK.int IntKind.u8, CK.int IntKind.u8]), some (TI.mk (TypeDesc.struct (Array.mk [Field.mk "TOS" 5 0 false "" "" 0, Field.mk "ID" 26 1 false "" "" 2, Field.mk "DF" 4 2 false "" "" 4, Field.mk "MF" 4 3 false "" "" 5, Field.mk "Off" 3 4 false "" "" 8, Field.mk "TTL" 5 5 false "" "" 16, Field.mk "Proto" 5 6 false "" "" 17, Field.mk "Src" 28 7 false "" "" 18, Field.mk "Dst" 28 11 false "" "" 22, Field.mk "Options" 22 15 false "" "" 32, Field.mk "Body" 22 16 false "" "" 56])) 17 80 [AV.int IntKind.u8 0, AV.int IntKind.u16 0, AV.bool false, AV.bool false, AV.int IntKind.i64 0, AV.int IntKind.u8 0, AV.int IntKind.u8 0, AV.int IntKind.u8 0, AV.int IntKind.u8 0, AV.int IntKind.u8 0, AV.int IntKind.u8 0, AV.int IntKind.u8 0, AV.int IntKind.u8 0, AV.int IntKind.u8 0, AV.int IntKind.u8 0, AV.fs 1 [] SF.nil, AV.fs 1 [] SF.nil] true false [CK.int IntKind.u8, CK.int IntKind.u16, CK.bool, CK.bool, CK.int IntKind.i64, CK.int IntKind.u8, CK.int IntKind.u8, CK.int IntKind.u8, CK.int IntKind.u8, CK.int IntKind.u8, CK.int IntKind.u8, CK.int IntKind.u8, CK.int IntKind.u8, CK.int IntKind.u8, CK.int IntKind.u8, CK.slice 1, CK.slice 1]), some (TI.mk (TypeDesc.struct (Array.mk [Field.mk "TOS" 5 0 false "" "" 0, Field.mk "ID" 26 1 false "" "" 2, Field.mk "DF" 4 2 false "" "" 4, Field.mk "MF" 4 3 false "" "" 5, Field.mk "Off" 3 4 false "" "" 8, Field.mk "TTL" 5 5 false "" "" 16, Field.mk "Proto" 5 6 false "" "" 17, Field.mk "Src" 28 7 false "" "" 18, Field.mk "Dst" 28 11 false "" "" 22, Field.mk "Options" 22 15 false "" "" 32, Field.mk "Body" 22 16 false "" "" 56])) 17 80 [AV.int IntKind.u8 0, AV.int IntKind.u16 0, AV.bool false, AV.bool false, AV.int IntKind.i64 0, AV.int IntKind.u8 0, AV.int IntKind.u8 0, AV.int IntKind.u8 0, AV.int IntKind.u8 0, AV.int IntKind.u8 0, AV.int IntKind.u8 0, AV.int IntKind.u8 0, AV.int IntKind.u8 0, AV.int IntKind.u8 0, AV.int IntKind.u8 0, AV.fs 1 [] SF.nil, AV.fs 1 [] SF.nil] true false [CK.int IntKind.u8, CK.int IntKind.u16, CK.bool, CK.bool, CK.int IntKind.i64, CK.int IntKind.u8, CK.int IntKind.u8, CK.int IntKind.u8, CK.int IntKind.u8, CK.int IntKind.u8, CK.int IntKind.u8, CK.int IntKind.u8, CK.int IntKind.u8, CK.int IntKind.u8, CK.int IntKind.u8, CK.slice 1, CK.slice 1]), some (TI.mk (TypeDesc.func (Array.mk [30]) (Array.mk [30]) false) 1 8 [AV.nilf] true false [CK.other]), some (TI.mk (TypeDesc.slice 30) 1 24 [AV.fs 17 [] SF.nil] true false [CK.slice 17]), some (TI.mk (TypeDesc.int IntKind.i64) 1 8 [AV.int IntKind.i64 0] true true [CK.int IntKind.i64]), none, some (TI.mk (TypeDesc.func (Array.mk [30, 3]) (Array.mk [32, 33]) false) 1 8 [AV.nilf] true false [CK.other]), none, some (TI.mk (TypeDesc.func (Array.mk [30]) (Array.mk [3, 3, 33]) false) 1 8 [AV.nilf] true false [CK.other]), some (TI.mk (TypeDesc.func (Array.mk [30, 3]) (Array.mk [4]) false) 1 8 [AV.nilf] true false [CK.other]), some (TI.mk (TypeDesc.func (Array.mk [30, 3, 3]) (Array.mk [4]) false) 1 8 [AV.nilf] true false [CK.other]), some (TI.mk (TypeDesc.func (Array.mk [30, 30]) (Array.mk [4]) false) 1 8 [AV.nilf] true false [CK.other]), none, some (TI.mk (TypeDesc.func (Array.mk [30, 3]) (Array.mk [32, 3]) false) 1 8 [AV.nilf] true false [CK.other]), some (TI.mk (TypeDesc.func (Array.mk [32, 32]) (Array.mk [4]) false) 1 8 [AV.nilf] true false [CK.other]), none, some (TI.mk (TypeDesc.func (Array.mk [30, 3]) (Array.mk [3, 33]) false) 1 8 [AV.nilf] true false [CK.other]), none, some (TI.mk (TypeDesc.func (Array.mk [30, 3]) (Array.mk [3, 3]) false) 1 8 [AV.nilf] true false [CK.other]), none, some (TI.mk (TypeDesc.func (Array.mk [30, 3]) (Array.mk [4, 33]) false) 1 8 [AV.nilf] true false [CK.other]), none, some (TI.mk (TypeDesc.func (Array.mk [30, 3]) (Array.mk [4, 3]) false) 1 8 [AV.nilf] true false [CK.other]), some (TI.mk (TypeDesc.int IntKind.i64) 1 8 [AV.int IntKind.i64 0] true true [CK.int IntKind.i64]), none, some (TI.mk (TypeDesc.func (Array.mk [52, 4, 5]) (Array.mk [52, 4]) false) 1 8 [AV.nilf] true false [CK.other]), none, some (TI.mk (TypeDesc.func (Array.mk [5, 5]) (Array.mk [52, 33]) false) 1 8 [AV.nilf] true false [CK.other]), none, some (TI.mk (TypeDesc.func (Array.mk [5, 5]) (Array.mk [52, 3]) false) 1 8 [AV.nilf] true false [CK.other]), some (TI.mk (TypeDesc.func (Array.mk [3, 4, 5, 5]) (Array.mk [4]) false) 1 8 [AV.nilf] true false [CK.other]), some (TI.mk (TypeDesc.struct (Array.mk [Field.mk "UDP" 3 0 false "" "" 0, Field.mk "ICMP" 3 1 false "" "" 8, Field.mk "Init" 3 2 false "" "" 16, Field.mk "Open" 3 3 false "" "" 24, Field.mk "Trans" 3 4 false "" "" 32])) 5 40 [AV.int IntKind.i64 0, AV.int IntKind.i64 0, AV.int IntKind.i64 0, AV.int IntKind.i64 0, AV.int IntKind.i64 0] true true [CK.int IntKind.i64, CK.int IntKind.i64, CK.int IntKind.i64, CK.int IntKind.i64, CK.int IntKind.i64]), some (TI.mk (TypeDesc.struct (Array.mk [Field.mk "UDP" 3 0 false "" "" 0, Field.mk "ICMP" 3 1 false "" "" 8, Field.mk "Init" 3 2 false "" "" 16, Field.mk "Open" 3 3 false "" "" 24, Field.mk "Trans" 3 4 false "" "" 32])) 5 40 [AV.int IntKind.i64 0, AV.int IntKind.i64 0, AV.int IntKind.i64 0, AV.int IntKind.i64 0, AV.int IntKind.i64 0] true true [CK.int IntKind.i64, CK.int IntKind.i64, CK.int IntKind.i64, CK.int IntKind.i64, CK.int IntKind.i64]), some (TI.mk (TypeDesc.func (Array.mk [61, 52]) (Array.mk [3, 33]) false) 1 8 [AV.nilf] true false [CK.other]), some (TI.mk (TypeDesc.func (Array.mk [61, 52]) (Array.mk [3, 3]) false) 1 8 [AV.nilf] true false [CK.other]), some (TI.mk (TypeDesc.func (Array.mk [61]) (Array.mk [33]) false) 1 8 [AV.nilf] true false [CK.other]), some (TI.mk (TypeDesc.func (Array.mk [61]) (Array.mk [3]) false) 1 8 [AV.nilf] true false [CK.other]), some (TI.mk (TypeDesc.func (Array.mk [61, 3]) (Array.mk [4]) false) 1 8 [AV.nilf] true false [CK.other]), some (TI.mk (TypeDesc.slice 75) 1 24 [AV.fs 3 [] SF.nil] true false [CK.slice 3]), some (TI.mk (TypeDesc.func (Array.mk [67]) (Array.mk [67]) false) 1 8 [AV.nilf] true false [CK.other]), none, some (TI.mk (TypeDesc.func (Array.mk [61, 5, 67]) (Array.mk [52, 3, 33]) true) 1 8 [AV.nilf] true false [CK.other]), none, some (TI.mk (TypeDesc.func (Array.mk [61, 5, 67]) (Array.mk [52, 3, 3]) false) 1 8 [AV.nilf] true false [CK.other]), some (TI.mk (TypeDesc.func (Array.mk [61, 5, 67]) (Array.mk [4]) false) 1 8 [AV.nilf] true false [CK.other]), some (TI.mk (TypeDesc.struct (Array.mk [Field.mk "Time" 3 0 false "" "" 0, Field.mk "Inside" 4 1 false "" "" 8, Field.mk "Flags" 5 2 false "" "" 9])) 3 16 [AV.int IntKind.i64 0, AV.bool false, AV.int IntKind.u8 0] true true [CK.int IntKind.i64, CK.bool, CK.int IntKind.u8]), some (TI.mk (TypeDesc.struct (Array.mk [Field.mk "Time" 3 0 false "" "" 0, Field.mk "Inside" 4 1 false "" "" 8, Field.mk "Flags" 5 2 false "" "" 9])) 3 16 [AV.int IntKind.i64 0, AV.bool false, AV.int IntKind.u8 0] true true [CK.int IntKind.i64, CK.bool, CK.int IntKind.u8]), some (TI.mk (TypeDesc.func (Array.mk [3, 4, 5]) (Array.mk [4]) false) 1 8 [AV.nilf] true false [CK.other]), some (TI.mk (TypeDesc.func (Array.mk [89]) (Array.mk []) false) 1 8 [AV.nilf] true false [CK.other]), some (TI.mk (TypeDesc.func (Array.mk [30, 3]) (Array.mk [77]) false) 1 8 [AV.nilf] true false [CK.other]), some (TI.mk (TypeDesc.func (Array.mk [30]) (Array.mk [33]) false) 1 8 [AV.nilf] true false [CK.other]), some (TI.mk (TypeDesc.func (Array.mk [30]) (Array.mk [3]) false) 1 8 [AV.nilf] true false [CK.other]), some (TI.mk (TypeDesc.func (Array.mk [30, 3]) (Array.mk [3]) false) 1 8 [AV.nilf] true false [CK.other]), some (TI.mk (TypeDesc.func (Array.mk [5, 5]) (Array.mk [4]) false) 1 8 [AV.nilf] true false [CK.other]), some (TI.mk (TypeDesc.func (Array.mk [5]) (Array.mk [4]) false) 1 8 [AV.nilf] true false [CK.other]), some (TI.mk (TypeDesc.func (Array.mk [52, 4, 5]) (Array.mk [52]) false) 1 8 [AV.nilf] true false [CK.other]), some (TI.mk (TypeDesc.func (Array.mk []) (Array.mk [61]) false) 1 8 [AV.nilf] true false [CK.other]), some (TI.mk (TypeDesc.array 5 3) 5 40 [AV.int IntKind.i64 0, AV.int IntKind.i64 0, AV.int IntKind.i64 0, AV.int IntKind.i64 0, AV.int IntKind.i64 0] true true [CK.int IntKind.i64, CK.int IntKind.i64, CK.int IntKind.i64, CK.int IntKind.i64, CK.int IntKind.i64]), some (TI.mk (TypeDesc.func (Array.mk [3]) (Array.mk [4]) false) 1 8 [AV.nilf] true false [CK.other]), some (TI.mk (TypeDesc.func (Array.mk [67]) (Array.mk [4]) false) 1 8 [AV.nilf] true false [CK.other]), some (TI.mk (TypeDesc.func (Array.mk [30]) (Array.mk [4]) false) 1 8 [AV.nilf] true false [CK.other]), some (TI.mk (TypeDesc.func (Array.mk []) (Array.mk [9]) false) 1 8 [AV.nilf] true false [CK.other]), some (TI.mk (TypeDesc.struct (Array.mk [Field.mk "_interface" 17 0 false "" "runtime" 0, Field.mk "concrete" 17 1 false "" "runtime" 8, Field.mk "asserted" 17 2 false "" "runtime" 16, Field.mk "missingMethod" 9 3 false "" "runtime" 24])) 4 40 [AV.nilp, AV.nilp, AV.nilp, AV.str (ByteArray.mk (Array.mk []))] false true [CK.other, CK.other, CK.other, CK.str]), some (TI.mk (TypeDesc.struct (Array.mk [Field.mk "_interface" 17 0 false "" "runtime" 0, Field.mk "concrete" 17 1 false "" "runtime" 8, Field.mk "asserted" 17 2 false "" "runtime" 16, Field.mk "missingMethod" 9 3 false "" "runtime" 24])) 4 40 [AV.nilp, AV.nilp, AV.nilp, AV.str (ByteArray.mk (Array.mk []))] false true [CK.other, CK.other, CK.other, CK.str]), some (TI.mk (TypeDesc.array 0 16) 0 0 [] true true []), some (TI.mk (TypeDesc.struct (Array.mk [Field.mk "_" 93 0 false "" "runtime" 0])) 0 0 [] false true []), some (TI.mk (TypeDesc.struct (Array.mk [Field.mk "_" 93 0 false "" "runtime" 0])) 0 0 [] false true []), some (TI.mk (TypeDesc.func (Array.mk []) (Array.mk [3]) false) 1 8 [AV.nilf] true false [CK.other]), some (TI.mk (TypeDesc.int IntKind.u32) 1 4 [AV.int IntKind.u32 0] true true [CK.int IntKind.u32]), some (TI.mk (TypeDesc.int IntKind.u8) 1 1 [AV.int IntKind.u8 0] true true [CK.int IntKind.u8]), some (TI.mk (TypeDesc.int IntKind.u8) 1 1 [AV.int IntKind.u8 0] true true [CK.int IntKind.u8]), some (TI.mk (TypeDesc.func (Array.mk [106, 106]) (Array.mk [4]) false) 1 8 [AV.nilf] true false [CK.other]), some (TI.mk (TypeDesc.pointer 5) 1 8 [AV.nilp] true true [CK.other]), some (TI.mk (TypeDesc.int IntKind.i32) 1 4 [AV.int IntKind.i32 0] true true [CK.int IntKind.i32]), some (TI.mk (TypeDesc.int IntKind.i32) 1 4 [AV.int IntKind.i32 0] true true [CK.int IntKind.i32]), some (TI.mk (TypeDesc.struct (Array.mk [Field.mk "Size_" 12 0 false "" "" 0, Field.mk "PtrBytes" 12 1 false "" "" 8, Field.mk "Hash" 97 2 false "" "" 16, Field.mk "TFlag" 98 3 false "" "" 20, Field.mk "Align_" 5 4 false "" "" 21, Field.mk "FieldAlign_" 5 5 false "" "" 22, Field.mk "Kind_" 99 6 false "" "" 23, Field.mk "Equal" 100 7 false "" "" 24, Field.mk "GCData" 101 8 false "" "" 32, Field.mk "Str" 102 9 false "" "" 40, Field.mk "PtrToThis" 103 10 false "" "" 44])) 11 48 [AV.int IntKind.u64 0, AV.int IntKind.u64 0, AV.int IntKind.u32 0, AV.int IntKind.u8 0, AV.int IntKind.u8 0, AV.int IntKind.u8 0, AV.int IntKind.u8 0, AV.nilf, AV.nilp, AV.int IntKind.i32 0, AV.int IntKind.i32 0] false false [CK.int IntKind.u64, CK.int IntKind.u64, CK.int IntKind.u32, CK.int IntKind.u8, CK.int IntKind.u8, CK.int IntKind.u8, CK.int IntKind.u8, CK.other, CK.other, CK.int IntKind.i32, CK.int IntKind.i32]), some (TI.mk (TypeDesc.struct (Array.mk [Field.mk "Size_" 12 0 false "" "" 0, Field.mk "PtrBytes" 12 1 false "" "" 8, Field.mk "Hash" 97 2 false "" "" 16, Field.mk "TFlag" 98 3 false "" "" 20, Field.mk "Align_" 5 4 false "" "" 21, Field.mk "FieldAlign_" 5 5 false "" "" 22, Field.mk "Kind_" 99 6 false "" "" 23, Field.mk "Equal" 100 7 false "" "" 24, Field.mk "GCData" 101 8 false "" "" 32, Field.mk "Str" 102 9 false "" "" 40, Field.mk "PtrToThis" 103 10 false "" "" 44])) 11 48 [AV.int IntKind.u64 0, AV.int IntKind.u64 0, AV.int IntKind.u32 0, AV.int IntKind.u8 0, AV.int IntKind.u8 0, AV.int IntKind.u8 0, AV.int IntKind.u8 0, AV.nilf, AV.nilp, AV.int IntKind.i32 0, AV.int IntKind.i32 0] false false [CK.int IntKind.u64, CK.int IntKind.u64, CK.int IntKind.u32, CK.int IntKind.u8, CK.int IntKind.u8, CK.int IntKind.u8, CK.int IntKind.u8, CK.other, CK.other, CK.int IntKind.i32, CK.int IntKind.i32]), some (TI.mk TypeDesc.unsafePointer 1 8 [AV.nilp] true true [CK.other])]
theorem E_ok : EnvOK Try.prog E := (show E = envOf Try.prog by kernel_rfl) ▸ envOf_ok _
theorem E_flds : FieldsOK E := fieldsB_ok (by kernel_rfl)
theorem mixed : Try.prog.follows .mixedOrders = true := by kernel_rfl
/-- ferryman/ipv4.Check -/
noncomputable def T41 : List (FuncId × FSpec) := []
theorem T41_ok : TabOK Try.prog T41 := TabOK.nil _
noncomputable def C41 : Ctx := (ctx E T41 [] [(0, [1]), (1, [1, 23]), (2, [2]), (3, [31]), (4, [2]), (5, [2])] [] 32 70)
theorem C41_ok : CtxOK Try.prog C41 := ctx_ok E_ok E_flds mixed T41_ok
noncomputable def B41 : FSpec := inlineK C41 Try.f41
noncomputable def S41 : FSpec := fun args H k => match args, H with
  | [.agg [.int .u8 t, .int .u16 i, .bool df, .bool mf, .int .i64 off, .int .u8 l, .int .u8 q, .int .u8 s0, .int .u8 s1, .int .u8 s2, .int .u8 s3, .int .u8 d0, .int .u8 d1, .int .u8 d2, .int .u8 d3, .fs 1 os of, .fs 1 bs bf]], [] => aIf (intsB .u8 os && decide (os.length ≤ 100) && decide (bs.length ≤ 70000) && decide (-9223372036854775808 ≤ off) && decide (off ≤ 9223372036854775807)) (k (.ret (.int .i64 (chk4E off os bs))) []) none
  | _, _ => none
theorem B41_ok : SpecOK Try.prog 41 B41 := inlineK_ok C41_ok Try.func41 (fun _ _ => LoopsOK.none _)
theorem N41 (t i : Int) (df mf : Bool) (off l q s0 s1 s2 s3 d0 d1 d2 d3 : Int) (os : List AV) (of : SF) (bs : List AV) (bf : SF) (k : KE) : B41 [.agg [.int .u8 t, .int .u16 i, .bool df, .bool mf, .int .i64 off, .int .u8 l, .int .u8 q, .int .u8 s0, .int .u8 s1, .int .u8 s2, .int .u8 s3, .int .u8 d0, .int .u8 d1, .int .u8 d2, .int .u8 d3, .fs 1 os of, .fs 1 bs bf]] [] k =
  aIf (decide (off < 0)) (k (AEnd.ret (AV.int IntKind.i64 45)) []) (aIf (decide (off > 8191)) (k (AEnd.ret (AV.int IntKind.i64 45)) []) (aIf (decide ((↑os.length : Int) > 40)) (k (AEnd.ret (AV.int IntKind.i64 45)) []) (aIf ((↑os.length : Int).tmod 4 != 0) (k (AEnd.ret (AV.int IntKind.i64 45)) []) (aIf (decide ((↑bs.length : Int) > IntKind.i64.wrap (65515 - (↑os.length : Int)))) (k (AEnd.ret (AV.int IntKind.i64 2)) []) (k (AEnd.ret (AV.int IntKind.i64 0)) []))))) := by kernel_rfl
theorem S41_ok : SpecOK Try.prog 41 S41 := by
  refine B41_ok.turn fun args H => ?_
  unfold S41
  split
  · rename_i t i df mf off l q s0 s1 s2 s3 d0 d1 d2 d3 os of bs bf
    rcases Bool.eq_false_or_eq_true (intsB .u8 os && decide (os.length ≤ 100) && decide (bs.length ≤ 70000) && decide (-9223372036854775808 ≤ off) && decide (off ≤ 9223372036854775807)) with hp | hp
    · refine .inr fun k => ?_
      rw [aIf_pos hp, N41]
      exact chk4_law hp k
    · exact .inl fun k => by rw [aIf_neg hp]
  · exact .inl fun k => rfl
theorem En41 : Enters Try.prog 41 := ⟨_, Try.func41, by decide, rfl⟩

/-- ferryman/ipv4.Size -/
noncomputable def T18 : List (FuncId × FSpec) := [(41, S41)]
theorem T18_ok : TabOK Try.prog T18 := TabOK.cons En41 S41_ok (TabOK.nil _)
noncomputable def C18 : Ctx := (ctx E T18 [] [(0, [1]), (1, [1, 5]), (2, [1, 5, 10]), (3, [2, 3, 4]), (4, [1, 6]), (5, [2, 3, 4])] [] 22 70)
theorem C18_ok : CtxOK Try.prog C18 := ctx_ok E_ok E_flds mixed T18_ok
noncomputable def S18 : FSpec := inlineK C18 Try.f18
theorem S18_ok : SpecOK Try.prog 18 S18 := inlineK_ok C18_ok Try.func18 (fun _ _ => LoopsOK.none _)
theorem En18 : Enters Try.prog 18 := ⟨_, Try.func18, by decide, rfl⟩

/-- ferryman/split.asked -/
noncomputable def T38 : List (FuncId × FSpec) := [(18, S18)]
theorem T38_ok : TabOK Try.prog T38 := TabOK.cons En18 S18_ok (TabOK.nil _)
noncomputable def C38 : Ctx := (ctx E T38 [] [(0, [1, 2]), (1, [1, 6, 8]), (2, [1, 6, 8, 16]), (3, [4, 5]), (4, [1, 6, 23]), (5, [4, 5]), (6, [4, 5])] [] 27 70)
theorem C38_ok : CtxOK Try.prog C38 := ctx_ok E_ok E_flds mixed T38_ok
noncomputable def B38 : FSpec := inlineK C38 Try.f38
noncomputable def S38 : FSpec := fun args H k => match args, H with
  | [.agg [.int .u8 t, .int .u16 i, .bool df, .bool mf, .int .i64 off, .int .u8 l, .int .u8 q, .int .u8 s0, .int .u8 s1, .int .u8 s2, .int .u8 s3, .int .u8 d0, .int .u8 d1, .int .u8 d2, .int .u8 d3, .fs 1 os of, .fs 1 bs bf], .int .i64 m], [] => aIf (intsB .u8 os && decide (os.length ≤ 100) && decide (bs.length ≤ 70000) && decide (-9223372036854775808 ≤ off) && decide (off ≤ 9223372036854775807) && decide (-9223372036854775808 ≤ m) && decide (m ≤ 9223372036854775807)) (k (.ret (.tup [.bool (fit4B off os bs m), .int .i64 (ask4E off os bs m)])) []) none
  | _, _ => none
theorem B38_ok : SpecOK Try.prog 38 B38 := inlineK_ok C38_ok Try.func38 (fun _ _ => LoopsOK.none _)
theorem N38 (t i : Int) (df mf : Bool) (off l q s0 s1 s2 s3 d0 d1 d2 d3 : Int) (os : List AV) (of : SF) (bs : List AV) (bf : SF) (m : Int) (k : KE) : B38 [.agg [.int .u8 t, .int .u16 i, .bool df, .bool mf, .int .i64 off, .int .u8 l, .int .u8 q, .int .u8 s0, .int .u8 s1, .int .u8 s2, .int .u8 s3, .int .u8 d0, .int .u8 d1, .int .u8 d2, .int .u8 d3, .fs 1 os of, .fs 1 bs bf], .int .i64 m] [] k =
  aIf (intsB IntKind.u8 os && decide (os.length ≤ 100) && decide (bs.length ≤ 70000) && decide (-9223372036854775808 ≤ off) && decide (off ≤ 9223372036854775807)) (aIf (Pl.chk4E off os bs != 0) (aIf (Pl.chk4E off os bs != 0) (k (AEnd.ret (AV.tup [AV.bool false, AV.int IntKind.i64 (Pl.chk4E off os bs)])) []) (aIf (decide (m < 68)) (k (AEnd.ret (AV.tup [AV.bool false, AV.int IntKind.i64 131])) []) (aIf (decide (m > 65535)) (k (AEnd.ret (AV.tup [AV.bool false, AV.int IntKind.i64 131])) []) (k (AEnd.ret (AV.tup [AV.bool (decide (0 ≤ m)), AV.int IntKind.i64 0])) [])))) (aIf (decide (m < 68)) (k (AEnd.ret (AV.tup [AV.bool false, AV.int IntKind.i64 131])) []) (aIf (decide (m > 65535)) (k (AEnd.ret (AV.tup [AV.bool false, AV.int IntKind.i64 131])) []) (k (AEnd.ret (AV.tup [AV.bool (decide (IntKind.i64.wrap (IntKind.i64.wrap (20 + (↑os.length : Int)) + (↑bs.length : Int)) ≤ m)), AV.int IntKind.i64 0])) [])))) none := by kernel_rfl
theorem S38_ok : SpecOK Try.prog 38 S38 := by
  refine B38_ok.turn fun args H => ?_
  unfold S38
  split
  · rename_i t i df mf off l q s0 s1 s2 s3 d0 d1 d2 d3 os of bs bf m
    rcases Bool.eq_false_or_eq_true (intsB .u8 os && decide (os.length ≤ 100) && decide (bs.length ≤ 70000) && decide (-9223372036854775808 ≤ off) && decide (off ≤ 9223372036854775807) && decide (-9223372036854775808 ≤ m) && decide (m ≤ 9223372036854775807)) with hp | hp
    · refine .inr fun k => ?_
      rw [aIf_pos hp, N38]
      exact ask4_law hp k
    · exact .inl fun k => by rw [aIf_neg hp]
  · exact .inl fun k => rfl
theorem En38 : Enters Try.prog 38 := ⟨_, Try.func38, by decide, rfl⟩

/-- slices.Clone[[]byte,byte] -/
noncomputable def T52 : List (FuncId × FSpec) := []
theorem T52_ok : TabOK Try.prog T52 := TabOK.nil _
noncomputable def C52 : Ctx := (ctx E T52 [] [(0, [0]), (1, [0, 4]), (2, [2]), (3, [2])] [] 8 70)
theorem C52_ok : CtxOK Try.prog C52 := ctx_ok E_ok E_flds mixed T52_ok
noncomputable def B52 : FSpec := inlineK C52 Try.f52
noncomputable def S52 : FSpec := fun args H k => match args, H with
  | [.fs 1 xs fl], [] => aIf (intsB .u8 xs && decide (xs.length ≤ 1000000) && okF xs fl) (k (.ret (.fs 1 xs (cloF xs fl))) []) none
  | _, _ => none
theorem B52_ok : SpecOK Try.prog 52 B52 := inlineK_ok C52_ok Try.func52 (fun _ _ => LoopsOK.none _)
theorem N52n (xs : List AV) (k : KE) : B52 [.fs 1 xs .nil] [] k =
  k (AEnd.ret (AV.fs 1 [] SF.nil)) [] := by kernel_rfl
theorem N52z (xs : List AV) (k : KE) : B52 [.fs 1 xs .zc] [] k =
  aIf (xs.length == 0) (k (AEnd.ret (AV.fs 1 [] SF.zc)) []) (aIf ((xs.length * 1).ble 140737488355328) (aIf ((List.flatMap AV.cells xs).length == xs.length * 1) (aIf (xs.length * 1 == xs.length * 1) (aIf (decide (0 + xs.length * 1 ≤ (List.flatMap AV.cells xs).length)) (aIf (flatL (List.take (xs.length * 1) (List.drop 0 (List.flatMap AV.cells xs)))) (k (AEnd.ret (AV.fs 1 (List.take xs.length (List.drop 0 (List.flatMap AV.cells xs))) SF.any)) []) none) none) none) none) none) := by kernel_rfl
theorem N52a (xs : List AV) (k : KE) : B52 [.fs 1 xs .any] [] k =
  aIf (xs.length == 0) (k (AEnd.ret (AV.fs 1 [] SF.zc)) []) (aIf ((xs.length * 1).ble 140737488355328) (aIf ((List.flatMap AV.cells xs).length == xs.length * 1) (aIf (xs.length * 1 == xs.length * 1) (aIf (decide (0 + xs.length * 1 ≤ (List.flatMap AV.cells xs).length)) (aIf (flatL (List.take (xs.length * 1) (List.drop 0 (List.flatMap AV.cells xs)))) (k (AEnd.ret (AV.fs 1 (List.take xs.length (List.drop 0 (List.flatMap AV.cells xs))) SF.any)) []) none) none) none) none) none) := by kernel_rfl
theorem N52b (xs : List AV) (k : KE) : B52 [.fs 1 xs .bor] [] k =
  aIf (xs.length == 0) (k (AEnd.ret (AV.fs 1 [] SF.zc)) []) (aIf ((xs.length * 1).ble 140737488355328) (aIf ((List.flatMap AV.cells xs).length == xs.length * 1) (aIf (xs.length * 1 == xs.length * 1) (aIf (decide (0 + xs.length * 1 ≤ (List.flatMap AV.cells xs).length)) (aIf (flatL (List.take (xs.length * 1) (List.drop 0 (List.flatMap AV.cells xs)))) (k (AEnd.ret (AV.fs 1 (List.take xs.length (List.drop 0 (List.flatMap AV.cells xs))) SF.any)) []) none) none) none) none) none) := by kernel_rfl
theorem S52_ok : SpecOK Try.prog 52 S52 := by
  refine B52_ok.turn fun args H => ?_
  unfold S52
  split
  · rename_i xs fl
    rcases Bool.eq_false_or_eq_true (intsB .u8 xs && decide (xs.length ≤ 1000000) && okF xs fl) with hp | hp
    · refine .inr fun k => ?_
      rw [aIf_pos hp]
      obtain ⟨⟨hu, hL⟩, hf⟩ : (intsB .u8 xs = true ∧ xs.length ≤ 1000000) ∧ okF xs fl = true := by simpa only [Bool.and_eq_true, decide_eq_true_eq] using hp
      cases fl with
      | nil => rw [N52n, isNil_eq (show isNil xs = true from hf)]; rfl
      | zc => rw [N52z]; exact clone_law hu hL k
      | any => rw [N52a]; exact clone_law hu hL k
      | bor => rw [N52b]; exact clone_law hu hL k
    · exact .inl fun k => by rw [aIf_neg hp]
  · exact .inl fun k => rfl
theorem En52 : Enters Try.prog 52 := ⟨_, Try.func52, by decide, rfl⟩

/-- ferryman/split.copied -/
noncomputable def T39 : List (FuncId × FSpec) := [(52, S52)]
theorem T39_ok : TabOK Try.prog T39 := TabOK.cons En52 S52_ok (TabOK.nil _)
noncomputable def C39 : Ctx := (ctx E T39 [] [(0, [1, 2]), (1, [1, 2]), (2, [2])] [] 12 70)
theorem C39_ok : CtxOK Try.prog C39 := ctx_ok E_ok E_flds mixed T39_ok
noncomputable def B39 : FSpec := inlineK C39 Try.f39
noncomputable def S39 : FSpec := fun args H k => match args, H with
  | [.agg [.int .u8 t, .int .u16 i, .bool df, .bool mf, .int .i64 off, .int .u8 l, .int .u8 q, .int .u8 s0, .int .u8 s1, .int .u8 s2, .int .u8 s3, .int .u8 d0, .int .u8 d1, .int .u8 d2, .int .u8 d3, .fs 1 os of, .fs 1 bs bf]], [] => aIf (intsB .u8 os && decide (os.length ≤ 1000000) && okF os of && intsB .u8 bs && decide (bs.length ≤ 1000000) && okF bs bf) (k (.ret (.agg [.int .u8 t, .int .u16 i, .bool df, .bool mf, .int .i64 off, .int .u8 l, .int .u8 q, .int .u8 s0, .int .u8 s1, .int .u8 s2, .int .u8 s3, .int .u8 d0, .int .u8 d1, .int .u8 d2, .int .u8 d3, .fs 1 os (cloF os of), .fs 1 bs (cloF bs bf)])) []) none
  | _, _ => none
theorem B39_ok : SpecOK Try.prog 39 B39 := inlineK_ok C39_ok Try.func39 (fun _ _ => LoopsOK.none _)
theorem N39 (t i : Int) (df mf : Bool) (off l q s0 s1 s2 s3 d0 d1 d2 d3 : Int) (os : List AV) (of : SF) (bs : List AV) (bf : SF) (k : KE) : B39 [.agg [.int .u8 t, .int .u16 i, .bool df, .bool mf, .int .i64 off, .int .u8 l, .int .u8 q, .int .u8 s0, .int .u8 s1, .int .u8 s2, .int .u8 s3, .int .u8 d0, .int .u8 d1, .int .u8 d2, .int .u8 d3, .fs 1 os of, .fs 1 bs bf]] [] k =
  aIf (intsB IntKind.u8 os && decide (os.length ≤ 1000000) && Pl.okF os of) (aIf (intsB IntKind.u8 bs && decide (bs.length ≤ 1000000) && Pl.okF bs bf) (k (AEnd.ret (AV.agg [AV.int IntKind.u8 t, AV.int IntKind.u16 i, AV.bool df, AV.bool mf, AV.int IntKind.i64 off, AV.int IntKind.u8 l, AV.int IntKind.u8 q, AV.int IntKind.u8 s0, AV.int IntKind.u8 s1, AV.int IntKind.u8 s2, AV.int IntKind.u8 s3, AV.int IntKind.u8 d0, AV.int IntKind.u8 d1, AV.int IntKind.u8 d2, AV.int IntKind.u8 d3, AV.fs 1 os (Pl.cloF os of), AV.fs 1 bs (Pl.cloF bs bf)])) []) none) none := by kernel_rfl
theorem S39_ok : SpecOK Try.prog 39 S39 := by
  refine B39_ok.turn fun args H => ?_
  unfold S39
  split
  · rename_i t i df mf off l q s0 s1 s2 s3 d0 d1 d2 d3 os of bs bf
    rcases Bool.eq_false_or_eq_true (intsB .u8 os && decide (os.length ≤ 1000000) && okF os of && intsB .u8 bs && decide (bs.length ≤ 1000000) && okF bs bf) with hp | hp
    · refine .inr fun k => ?_
      rw [aIf_pos hp, N39]
      simp only [Bool.and_eq_true] at hp
      obtain ⟨⟨⟨⟨⟨h1, h2⟩, h3⟩, h4⟩, h5⟩, h6⟩ := hp
      rw [h1, h2, h3, h4, h5, h6]; rfl
    · exact .inl fun k => by rw [aIf_neg hp]
  · exact .inl fun k => rfl
theorem En39 : Enters Try.prog 39 := ⟨_, Try.func39, by decide, rfl⟩

/-- ferryman/split.Copied -/
noncomputable def T13 : List (FuncId × FSpec) := []
theorem T13_ok : TabOK Try.prog T13 := TabOK.nil _
noncomputable def L13_3 : ATs → AH → KC → Res := fun ts H k => match ts, H with
  | [(0, .fs 1 xs fl), (3, .fs 0 [] .nil), (4, .int .i64 i)], [] => aIf (i == 0 && intsB .u8 xs && decide (xs.length ≤ 100000)) (aIf (isNil (copL xs)) (k (.exit 0) [(0, .fs 1 xs fl), (3, .fs 0 [] .nil), (4, .int .i64 (xs.length : Int)), (9, .bool false)] []) (k (.exit 0) [(0, .fs 1 xs fl), (3, .sl 0 (copL xs).length 0 (copL xs).length 1), (4, .int .i64 (xs.length : Int)), (9, .bool false)] [.cells (copL xs).length (copL xs)])) none
  | _, _ => none
noncomputable def L13_15 : ATs → AH → KC → Res := fun ts H k => match ts, H with
  | [(3, .fs 0 [] .nil)], [] => aIf (true) (k (.exit 3) [(3, .fs 0 [] .nil), (73, .bool false)] []) none
  | [(3, .sl 0 v 0 l 1)], [.cells w cs] => aIf (v == l && w == l && l == cs.length && decide (l ≤ 200000) && !isNil cs && intsB .u8 cs) (k (.exit 3) [(3, .sl 0 (padL cs).length 0 (padL cs).length 1), (73, .bool false)] [.cells (padL cs).length (padL cs)]) none
  | _, _ => none
noncomputable def C13 : Ctx := (ctx E T13 [(3, L13_3), (15, L13_15)] [(0, [0]), (1, [0, 3]), (2, [0, 3, 4]), (3, [0, 3, 4, 9]), (4, [0, 3, 4, 5]), (5, [0, 3, 4, 5, 13]), (6, [0, 3, 4, 39]), (7, [0, 3, 4]), (8, [0, 3, 4, 5]), (9, [0, 3, 4, 5, 52]), (10, [0, 3, 4, 5]), (11, [0, 3, 4, 5, 13, 61]), (12, [0, 3, 4]), (13, [0, 3, 4, 5, 65]), (14, [0, 3, 4]), (15, [3, 73]), (16, [3]), (17, [2]), (1000003, [0, 3, 4]), (1000015, [3])] [] 78 70)
theorem C13_ok : CtxOK Try.prog C13 := ctx_ok E_ok E_flds mixed T13_ok
theorem C13_l0 : C13.loop (loopId (loopB Try.f13 0)) = some L13_3 := by kernel_rfl
theorem C13_l1 : C13.loop (loopId (loopB Try.f13 1)) = some L13_15 := by kernel_rfl
theorem L13_15_in : LoopsOK C13 (loopB Try.f13 1) := LoopsOK.within 0 (by kernel_rfl) (fun j hj S hS => by
  omega)
theorem M13_15a  (k : KC) : headedK C13 (loopB Try.f13 1) [(3, .fs 0 [] .nil)] [] k =
  k (AExit.exit 3) [(3, AV.fs 0 [] SF.nil), (73, AV.bool false)] [] := by kernel_rfl
theorem M13_15b (v l w : Nat) (cs : List AV) (k : KC) : headedK C13 (loopB Try.f13 1) [(3, .sl 0 v 0 l 1)] [.cells w cs] k =
  aIf ((↑l : Int).tmod 4 != 0) (aIf (v == 0) none (aIf (w == v) (aIf (((l + 1) * 1).ble 140737488355328) (k AExit.normal [(3, AV.sl 0 (max v ((l + 1) * 1)) 0 (l + 1) 1)] [AO.cells (max v ((l + 1) * 1)) (List.take (l * 1) cs ++ [AV.int IntKind.u8 0] ++ List.drop (l * 1 + 1) cs)]) none) none)) (k (AExit.exit 3) [(3, AV.sl 0 v 0 l 1), (73, AV.bool ((↑l : Int).tmod 4 != 0))] [AO.cells w cs]) := by kernel_rfl
theorem L13_15_ok : LoopSum C13 (loopB Try.f13 1) L13_15 := LoopSum.of C13_ok L13_15_in (fun ts H => by
  unfold L13_15
  split
  · skip
    rcases Bool.eq_false_or_eq_true (true) with hp | hp
    · refine .inr ?_
      simp only [aIf_pos hp]
      exact ⟨1, fun k => (iter_exit (by intro h; cases h) (fun k => M13_15a k) 0 k).symm⟩
    · exact .inl fun k => by rw [aIf_neg hp]
  · rename_i v l w cs
    rcases Bool.eq_false_or_eq_true (v == l && w == l && l == cs.length && decide (l ≤ 200000) && !isNil cs && intsB .u8 cs) with hp | hp
    · refine .inr ?_
      simp only [aIf_pos hp]
      simp only [Bool.and_eq_true, beq_iff_eq, decide_eq_true_eq, Bool.not_eq_true'] at hp
      obtain ⟨⟨⟨⟨⟨rfl, rfl⟩, rfl⟩, hL⟩, hne⟩, hu⟩ := hp
      have hq : ∀ s : List AV, ((s.length : Int).tmod 4 != 0) = padC s := fun s => by
        have e : (s.length : Int).tmod 4 = ((s.length % 4 : Nat) : Int) := by rw [Int.tmod_eq_emod_of_nonneg (by omega)]; simp
        unfold padC
        rw [e, bne, Bool.not_eq_eq_eq_not, Bool.not_not, Bool.eq_iff_iff, beq_iff_eq, beq_iff_eq]; omega
      obtain ⟨m, hm⟩ := iter_while (F := headedK C13 (loopB Try.f13 1)) (ts := fun s : List AV => [(3, .sl 0 s.length 0 s.length 1)]) (H := fun s => [.cells s.length s]) (c := padC) (f := padF) (I := fun s => isNil s = false ∧ s.length + (4 - s.length % 4) % 4 ≤ 200004) (μ := fun s => (4 - s.length % 4) % 4) (ee := fun _ => .exit 3) (te := fun s => [(3, .sl 0 s.length 0 s.length 1), (73, .bool false)]) (He := fun s => [.cells s.length s])
        (fun s hI hc => by
          have hc' : ¬ s.length % 4 = 0 := by unfold padC at hc; simpa using hc
          have hl : (padF s).length = s.length + 1 := by unfold padF; rw [List.length_append]; rfl
          refine ⟨⟨isNil_app (by simp), by have := hI.2; omega⟩, by show (4 - (padF s).length % 4) % 4 < _; omega, fun k => ?_⟩
          have k5 : (s.length == 0) = false := beq_eq_false_iff_ne.2 (fun h => by cases s with | nil => exact absurd hI.1 (by decide) | cons => simp at h)
          have k6 : ((s.length + 1) * 1).ble 140737488355328 = true := by rw [Nat.ble_eq]; omega
          have k8 : max s.length ((s.length + 1) * 1) = s.length + 1 := by omega
          rw [M13_15b, hq, hc]
          simp only [aIf_true, aIf_false, k5, k6, k8, beq_self_eq_true, take_put]
          rw [hl]; rfl)
        (fun s hI hc => ⟨(by intro h; cases h), fun k => by rw [M13_15b, hq, hc]; rfl⟩) 4 cs (by omega) ⟨hne, by omega⟩
      exact ⟨m, fun k => (hm k).symm⟩
    · exact .inl fun k => by rw [aIf_neg hp]
  · exact .inl fun k => rfl)
theorem L13_3_in : LoopsOK C13 (loopB Try.f13 0) := LoopsOK.within 0 (by kernel_rfl) (fun j hj S hS => by
  omega)
theorem M13_3a (xs : List AV) (fl : SF) (i : Int) (k : KC) : headedK C13 (loopB Try.f13 0) [(0, .fs 1 xs fl), (3, .fs 0 [] .nil), (4, .int .i64 i)] [] k =
  aIf (decide (i < (↑xs.length : Int))) (aIf (decide (0 ≤ i)) (aIf (decide (i < (↑xs.length : Int))) (aIf ((xs.getD i.toNat AV.junk).cells.length == 1) (aIf (([(xs.getD i.toNat AV.junk).cells.getD 0 AV.junk].getD 0 AV.junk).isInt IntKind.u8) (aIf (([(xs.getD i.toNat AV.junk).cells.getD 0 AV.junk].getD 0 AV.junk).toInt == 0) (k AExit.normal [(0, AV.fs 1 xs fl), (3, AV.fs 0 [] SF.nil), (4, AV.int IntKind.i64 (↑xs.length : Int))] []) (aIf (([(xs.getD i.toNat AV.junk).cells.getD 0 AV.junk].getD 0 AV.junk).toInt == 1) (k AExit.normal [(0, AV.fs 1 xs fl), (3, AV.fs 0 [] SF.nil), (4, AV.int IntKind.i64 (IntKind.i64.wrap (i + 1)))] []) (aIf (decide (IntKind.i64.wrap (i + 1) ≥ (↑xs.length : Int))) (k AExit.normal [(0, AV.fs 1 xs fl), (3, AV.fs 0 [] SF.nil), (4, AV.int IntKind.i64 (↑xs.length : Int))] []) (aIf (decide (0 ≤ IntKind.i64.wrap (i + 1))) (aIf (decide (IntKind.i64.wrap (i + 1) < (↑xs.length : Int))) (aIf ((xs.getD (IntKind.i64.wrap (i + 1)).toNat AV.junk).cells.length == 1) (aIf (([(xs.getD (IntKind.i64.wrap (i + 1)).toNat AV.junk).cells.getD 0 AV.junk].getD 0 AV.junk).isInt IntKind.u8) (aIf (decide (([(xs.getD (IntKind.i64.wrap (i + 1)).toNat AV.junk).cells.getD 0 AV.junk].getD 0 AV.junk).toInt < 2)) (k AExit.normal [(0, AV.fs 1 xs fl), (3, AV.fs 0 [] SF.nil), (4, AV.int IntKind.i64 (↑xs.length : Int))] []) (aIf (decide (0 ≤ IntKind.i64.wrap (i + 1))) (aIf (decide (IntKind.i64.wrap (i + 1) < (↑xs.length : Int))) (aIf ((xs.getD (IntKind.i64.wrap (i + 1)).toNat AV.junk).cells.length == 1) (aIf (([(xs.getD (IntKind.i64.wrap (i + 1)).toNat AV.junk).cells.getD 0 AV.junk].getD 0 AV.junk).isInt IntKind.u8) (aIf (decide (IntKind.i64.wrap ([(xs.getD (IntKind.i64.wrap (i + 1)).toNat AV.junk).cells.getD 0 AV.junk].getD 0 AV.junk).toInt > IntKind.i64.wrap ((↑xs.length : Int) - i))) (k AExit.normal [(0, AV.fs 1 xs fl), (3, AV.fs 0 [] SF.nil), (4, AV.int IntKind.i64 (↑xs.length : Int))] []) (aIf (decide (0 ≤ IntKind.i64.wrap (i + 1))) (aIf (decide (IntKind.i64.wrap (i + 1) < (↑xs.length : Int))) (aIf ((xs.getD (IntKind.i64.wrap (i + 1)).toNat AV.junk).cells.length == 1) (aIf (([(xs.getD (IntKind.i64.wrap (i + 1)).toNat AV.junk).cells.getD 0 AV.junk].getD 0 AV.junk).isInt IntKind.u8) (aIf (decide (0 ≤ i)) (aIf (decide (i < (↑xs.length : Int))) (aIf ((xs.getD i.toNat AV.junk).cells.length == 1) (aIf (([(xs.getD i.toNat AV.junk).cells.getD 0 AV.junk].getD 0 AV.junk).isInt IntKind.u8) (aIf (decide (([(xs.getD i.toNat AV.junk).cells.getD 0 AV.junk].getD 0 AV.junk).toInt ≥ 128)) (aIf (decide (0 ≤ i)) (aIf (decide (i ≤ IntKind.i64.wrap (i + IntKind.i64.wrap ([(xs.getD (IntKind.i64.wrap (i + 1)).toNat AV.junk).cells.getD 0 AV.junk].getD 0 AV.junk).toInt))) (aIf (decide (IntKind.i64.wrap (i + IntKind.i64.wrap ([(xs.getD (IntKind.i64.wrap (i + 1)).toNat AV.junk).cells.getD 0 AV.junk].getD 0 AV.junk).toInt) ≤ (↑xs.length : Int))) (aIf ((List.drop i.toNat (List.take (IntKind.i64.wrap (i + IntKind.i64.wrap ([(xs.getD (IntKind.i64.wrap (i + 1)).toNat AV.junk).cells.getD 0 AV.junk].getD 0 AV.junk).toInt)).toNat xs)).length == 0) (k AExit.normal [(0, AV.fs 1 xs fl), (3, AV.fs 0 [] SF.nil), (4, AV.int IntKind.i64 (IntKind.i64.wrap (i + IntKind.i64.wrap ([(xs.getD (IntKind.i64.wrap (i + 1)).toNat AV.junk).cells.getD 0 AV.junk].getD 0 AV.junk).toInt)))] []) (aIf (((List.drop i.toNat (List.take (IntKind.i64.wrap (i + IntKind.i64.wrap ([(xs.getD (IntKind.i64.wrap (i + 1)).toNat AV.junk).cells.getD 0 AV.junk].getD 0 AV.junk).toInt)).toNat xs)).length * 1).ble 140737488355328) (aIf ((List.flatMap AV.cells (List.drop i.toNat (List.take (IntKind.i64.wrap (i + IntKind.i64.wrap ([(xs.getD (IntKind.i64.wrap (i + 1)).toNat AV.junk).cells.getD 0 AV.junk].getD 0 AV.junk).toInt)).toNat xs))).length == (List.drop i.toNat (List.take (IntKind.i64.wrap (i + IntKind.i64.wrap ([(xs.getD (IntKind.i64.wrap (i + 1)).toNat AV.junk).cells.getD 0 AV.junk].getD 0 AV.junk).toInt)).toNat xs)).length * 1) (k AExit.normal [(0, AV.fs 1 xs fl), (3, AV.sl 0 ((List.drop i.toNat (List.take (IntKind.i64.wrap (i + IntKind.i64.wrap ([(xs.getD (IntKind.i64.wrap (i + 1)).toNat AV.junk).cells.getD 0 AV.junk].getD 0 AV.junk).toInt)).toNat xs)).length * 1) 0 (List.drop i.toNat (List.take (IntKind.i64.wrap (i + IntKind.i64.wrap ([(xs.getD (IntKind.i64.wrap (i + 1)).toNat AV.junk).cells.getD 0 AV.junk].getD 0 AV.junk).toInt)).toNat xs)).length 1), (4, AV.int IntKind.i64 (IntKind.i64.wrap (i + IntKind.i64.wrap ([(xs.getD (IntKind.i64.wrap (i + 1)).toNat AV.junk).cells.getD 0 AV.junk].getD 0 AV.junk).toInt)))] [AO.cells ((List.drop i.toNat (List.take (IntKind.i64.wrap (i + IntKind.i64.wrap ([(xs.getD (IntKind.i64.wrap (i + 1)).toNat AV.junk).cells.getD 0 AV.junk].getD 0 AV.junk).toInt)).toNat xs)).length * 1) (List.flatMap AV.cells (List.drop i.toNat (List.take (IntKind.i64.wrap (i + IntKind.i64.wrap ([(xs.getD (IntKind.i64.wrap (i + 1)).toNat AV.junk).cells.getD 0 AV.junk].getD 0 AV.junk).toInt)).toNat xs)))]) none) none)) none) none) none) (k AExit.normal [(0, AV.fs 1 xs fl), (3, AV.fs 0 [] SF.nil), (4, AV.int IntKind.i64 (IntKind.i64.wrap (i + IntKind.i64.wrap ([(xs.getD (IntKind.i64.wrap (i + 1)).toNat AV.junk).cells.getD 0 AV.junk].getD 0 AV.junk).toInt)))] [])) none) none) none) none) none) none) none) none)) none) none) none) none)) none) none) none) none)))) none) none) none) none) (k (AExit.exit 0) [(0, AV.fs 1 xs fl), (3, AV.fs 0 [] SF.nil), (4, AV.int IntKind.i64 i), (9, AV.bool (decide (i < (↑xs.length : Int))))] []) := by kernel_rfl
theorem M13_3b (xs : List AV) (fl : SF) (v l : Nat) (i : Int) (w : Nat) (cs : List AV) (k : KC) : headedK C13 (loopB Try.f13 0) [(0, .fs 1 xs fl), (3, .sl 0 v 0 l 1), (4, .int .i64 i)] [.cells w cs] k =
  aIf (decide (i < (↑xs.length : Int))) (aIf (decide (0 ≤ i)) (aIf (decide (i < (↑xs.length : Int))) (aIf ((xs.getD i.toNat AV.junk).cells.length == 1) (aIf (([(xs.getD i.toNat AV.junk).cells.getD 0 AV.junk].getD 0 AV.junk).isInt IntKind.u8) (aIf (([(xs.getD i.toNat AV.junk).cells.getD 0 AV.junk].getD 0 AV.junk).toInt == 0) (k AExit.normal [(0, AV.fs 1 xs fl), (3, AV.sl 0 v 0 l 1), (4, AV.int IntKind.i64 (↑xs.length : Int))] [AO.cells w cs]) (aIf (([(xs.getD i.toNat AV.junk).cells.getD 0 AV.junk].getD 0 AV.junk).toInt == 1) (k AExit.normal [(0, AV.fs 1 xs fl), (3, AV.sl 0 v 0 l 1), (4, AV.int IntKind.i64 (IntKind.i64.wrap (i + 1)))] [AO.cells w cs]) (aIf (decide (IntKind.i64.wrap (i + 1) ≥ (↑xs.length : Int))) (k AExit.normal [(0, AV.fs 1 xs fl), (3, AV.sl 0 v 0 l 1), (4, AV.int IntKind.i64 (↑xs.length : Int))] [AO.cells w cs]) (aIf (decide (0 ≤ IntKind.i64.wrap (i + 1))) (aIf (decide (IntKind.i64.wrap (i + 1) < (↑xs.length : Int))) (aIf ((xs.getD (IntKind.i64.wrap (i + 1)).toNat AV.junk).cells.length == 1) (aIf (([(xs.getD (IntKind.i64.wrap (i + 1)).toNat AV.junk).cells.getD 0 AV.junk].getD 0 AV.junk).isInt IntKind.u8) (aIf (decide (([(xs.getD (IntKind.i64.wrap (i + 1)).toNat AV.junk).cells.getD 0 AV.junk].getD 0 AV.junk).toInt < 2)) (k AExit.normal [(0, AV.fs 1 xs fl), (3, AV.sl 0 v 0 l 1), (4, AV.int IntKind.i64 (↑xs.length : Int))] [AO.cells w cs]) (aIf (decide (0 ≤ IntKind.i64.wrap (i + 1))) (aIf (decide (IntKind.i64.wrap (i + 1) < (↑xs.length : Int))) (aIf ((xs.getD (IntKind.i64.wrap (i + 1)).toNat AV.junk).cells.length == 1) (aIf (([(xs.getD (IntKind.i64.wrap (i + 1)).toNat AV.junk).cells.getD 0 AV.junk].getD 0 AV.junk).isInt IntKind.u8) (aIf (decide (IntKind.i64.wrap ([(xs.getD (IntKind.i64.wrap (i + 1)).toNat AV.junk).cells.getD 0 AV.junk].getD 0 AV.junk).toInt > IntKind.i64.wrap ((↑xs.length : Int) - i))) (k AExit.normal [(0, AV.fs 1 xs fl), (3, AV.sl 0 v 0 l 1), (4, AV.int IntKind.i64 (↑xs.length : Int))] [AO.cells w cs]) (aIf (decide (0 ≤ IntKind.i64.wrap (i + 1))) (aIf (decide (IntKind.i64.wrap (i + 1) < (↑xs.length : Int))) (aIf ((xs.getD (IntKind.i64.wrap (i + 1)).toNat AV.junk).cells.length == 1) (aIf (([(xs.getD (IntKind.i64.wrap (i + 1)).toNat AV.junk).cells.getD 0 AV.junk].getD 0 AV.junk).isInt IntKind.u8) (aIf (decide (0 ≤ i)) (aIf (decide (i < (↑xs.length : Int))) (aIf ((xs.getD i.toNat AV.junk).cells.length == 1) (aIf (([(xs.getD i.toNat AV.junk).cells.getD 0 AV.junk].getD 0 AV.junk).isInt IntKind.u8) (aIf (decide (([(xs.getD i.toNat AV.junk).cells.getD 0 AV.junk].getD 0 AV.junk).toInt ≥ 128)) (aIf (decide (0 ≤ i)) (aIf (decide (i ≤ IntKind.i64.wrap (i + IntKind.i64.wrap ([(xs.getD (IntKind.i64.wrap (i + 1)).toNat AV.junk).cells.getD 0 AV.junk].getD 0 AV.junk).toInt))) (aIf (decide (IntKind.i64.wrap (i + IntKind.i64.wrap ([(xs.getD (IntKind.i64.wrap (i + 1)).toNat AV.junk).cells.getD 0 AV.junk].getD 0 AV.junk).toInt) ≤ (↑xs.length : Int))) (aIf (v == 0) none (aIf (w == v) (aIf (((l + (List.drop i.toNat (List.take (IntKind.i64.wrap (i + IntKind.i64.wrap ([(xs.getD (IntKind.i64.wrap (i + 1)).toNat AV.junk).cells.getD 0 AV.junk].getD 0 AV.junk).toInt)).toNat xs)).length) * 1).ble 140737488355328) (aIf ((List.flatMap AV.cells (List.drop i.toNat (List.take (IntKind.i64.wrap (i + IntKind.i64.wrap ([(xs.getD (IntKind.i64.wrap (i + 1)).toNat AV.junk).cells.getD 0 AV.junk].getD 0 AV.junk).toInt)).toNat xs))).length == (List.drop i.toNat (List.take (IntKind.i64.wrap (i + IntKind.i64.wrap ([(xs.getD (IntKind.i64.wrap (i + 1)).toNat AV.junk).cells.getD 0 AV.junk].getD 0 AV.junk).toInt)).toNat xs)).length * 1) (k AExit.normal [(0, AV.fs 1 xs fl), (3, AV.sl 0 (max v ((l + (List.drop i.toNat (List.take (IntKind.i64.wrap (i + IntKind.i64.wrap ([(xs.getD (IntKind.i64.wrap (i + 1)).toNat AV.junk).cells.getD 0 AV.junk].getD 0 AV.junk).toInt)).toNat xs)).length) * 1)) 0 (l + (List.drop i.toNat (List.take (IntKind.i64.wrap (i + IntKind.i64.wrap ([(xs.getD (IntKind.i64.wrap (i + 1)).toNat AV.junk).cells.getD 0 AV.junk].getD 0 AV.junk).toInt)).toNat xs)).length) 1), (4, AV.int IntKind.i64 (IntKind.i64.wrap (i + IntKind.i64.wrap ([(xs.getD (IntKind.i64.wrap (i + 1)).toNat AV.junk).cells.getD 0 AV.junk].getD 0 AV.junk).toInt)))] [AO.cells (max v ((l + (List.drop i.toNat (List.take (IntKind.i64.wrap (i + IntKind.i64.wrap ([(xs.getD (IntKind.i64.wrap (i + 1)).toNat AV.junk).cells.getD 0 AV.junk].getD 0 AV.junk).toInt)).toNat xs)).length) * 1)) (List.take (l * 1) cs ++ List.flatMap AV.cells (List.drop i.toNat (List.take (IntKind.i64.wrap (i + IntKind.i64.wrap ([(xs.getD (IntKind.i64.wrap (i + 1)).toNat AV.junk).cells.getD 0 AV.junk].getD 0 AV.junk).toInt)).toNat xs)) ++ List.drop (l * 1 + (List.drop i.toNat (List.take (IntKind.i64.wrap (i + IntKind.i64.wrap ([(xs.getD (IntKind.i64.wrap (i + 1)).toNat AV.junk).cells.getD 0 AV.junk].getD 0 AV.junk).toInt)).toNat xs)).length * 1) cs)]) none) none) none)) none) none) none) (k AExit.normal [(0, AV.fs 1 xs fl), (3, AV.sl 0 v 0 l 1), (4, AV.int IntKind.i64 (IntKind.i64.wrap (i + IntKind.i64.wrap ([(xs.getD (IntKind.i64.wrap (i + 1)).toNat AV.junk).cells.getD 0 AV.junk].getD 0 AV.junk).toInt)))] [AO.cells w cs])) none) none) none) none) none) none) none) none)) none) none) none) none)) none) none) none) none)))) none) none) none) none) (k (AExit.exit 0) [(0, AV.fs 1 xs fl), (3, AV.sl 0 v 0 l 1), (4, AV.int IntKind.i64 i), (9, AV.bool (decide (i < (↑xs.length : Int))))] [AO.cells w cs]) := by kernel_rfl
theorem L13_3_ok : LoopSum C13 (loopB Try.f13 0) L13_3 := LoopSum.of C13_ok L13_3_in (fun ts H => by
  unfold L13_3
  split
  · rename_i xs fl i
    rcases Bool.eq_false_or_eq_true (i == 0 && intsB .u8 xs && decide (xs.length ≤ 100000)) with hp | hp
    · refine .inr ?_
      simp only [aIf_pos hp]
      simp only [Bool.and_eq_true, beq_iff_eq, decide_eq_true_eq] at hp
      obtain ⟨⟨rfl, hx⟩, hL⟩ := hp
      have key : ∀ s : Nat × List AV, (intsB .u8 s.2 = true ∧ s.2.length ≤ s.1 ∧ s.1 ≤ xs.length) → s.1 < xs.length → ∀ k, headedK C13 (loopB Try.f13 0) [(0, .fs 1 xs fl), (3, slB s.2), (4, .int .i64 (s.1 : Int))] (hpB s.2) k = k .normal [(0, .fs 1 xs fl), (3, slB (copF xs s).2), (4, .int .i64 ((copF xs s).1 : Int))] (hpB (copF xs s).2) := by
        intro s hI hlt0 k
        obtain ⟨j, out⟩ := s
        obtain ⟨hI1, hI2, hI3⟩ := hI
        replace hlt0 : j < xs.length := hlt0
        replace hI2 : out.length ≤ j := hI2
        
        have hlt : decide ((j : Int) < (xs.length : Int)) = true := decide_eq_true (by omega)
        have h0 : decide ((0 : Int) ≤ (j : Int)) = true := decide_eq_true (by omega)
        obtain ⟨b, hb, hbe⟩ := u8_get hx j hlt0
        have hbA : bAt xs j = (b : Int) := by unfold bAt; rw [hbe]; rfl
        have hn1 : IntKind.i64.wrap ((j : Int) + 1) = ((j + 1 : Nat) : Int) := by rw [i64_of (by omega) (by omega)]; omega
        have w3 : IntKind.i64.wrap ((xs.length : Int) - (j : Int)) = ((xs.length - j : Nat) : Int) := by rw [i64_of (by omega) (by omega)]; omega
        cases hn : isNil out with
        | true =>
          obtain rfl := isNil_eq hn
          show headedK C13 (loopB Try.f13 0) [(0, .fs 1 xs fl), (3, .fs 0 [] .nil), (4, .int .i64 (j : Int))] [] k = _
          by_cases hb0 : b = 0
          · subst hb0
            have hst := copStop_0 (xs := xs) (j := j) hbA
            rw [M13_3a]; simp only [hlt, h0, Int.toNat_natCast, hbe, hn1, w3, cells_int, toInt_int, isInt_u8, len_beq1, getD_one, aIf_true, aIf_false, Int.natCast_zero, beq_self_eq_true]; rw [copF_stop hst]; rfl
          by_cases hb1 : b = 1
          · subst hb1
            have e10 : (((1 : Nat) : Int) == 0) = false := rfl
            have e11 : (((1 : Nat) : Int) == 1) = true := rfl
            have d10 : (((1 : Nat) : Int) != 0) = true := rfl
            rw [M13_3a]; simp only [hlt, h0, Int.toNat_natCast, hbe, hn1, w3, cells_int, toInt_int, isInt_u8, len_beq1, getD_one, aIf_true, aIf_false, e10, e11, d10]; rw [copF_1 hbA]; rfl
          have hA0 : bAt xs j ≠ 0 := by rw [hbA]; omega
          have hA1 : bAt xs j ≠ 1 := by rw [hbA]; omega
          have n0 : ((b : Int) == 0) = false := beq_eq_false_iff_ne.2 (by omega)
          have n0' : ((b : Int) != 0) = true := by rw [bne, n0]; rfl
          have n1 : ((b : Int) == 1) = false := beq_eq_false_iff_ne.2 (by omega)
          have hS := copStop_n hA0 hA1
          by_cases hge : xs.length ≤ j + 1
          · have hst : copStop xs j = true := by rw [hS, decide_eq_true hge]; rfl
            have g1 : decide (((j + 1 : Nat) : Int) ≥ (xs.length : Int)) = true := decide_eq_true (by omega)
            rw [M13_3a]; simp only [hlt, h0, Int.toNat_natCast, hbe, hn1, w3, cells_int, toInt_int, isInt_u8, len_beq1, getD_one, aIf_true, aIf_false, n0, n0', n1, g1]; rw [copF_stop hst]; rfl
          obtain ⟨c, hc, hce⟩ := u8_get hx (j + 1) (by omega)
          have hcA : bAt xs (j + 1) = (c : Int) := by unfold bAt; rw [hce]; rfl
          have g1 : decide (((j + 1 : Nat) : Int) ≥ (xs.length : Int)) = false := decide_eq_false (by omega)
          have g2 : decide ((0 : Int) ≤ ((j + 1 : Nat) : Int)) = true := decide_eq_true (by omega)
          have g3 : decide (((j + 1 : Nat) : Int) < (xs.length : Int)) = true := decide_eq_true (by omega)
          have w4 : IntKind.i64.wrap (c : Int) = (c : Int) := i64_of (by omega) (by omega)
          rw [decide_eq_false hge, hcA, Bool.false_or] at hS
          by_cases hlo : c < 2
          · have l1 : decide ((c : Int) < 2) = true := decide_eq_true (by omega)
            have hst : copStop xs j = true := by rw [hS, l1]; rfl
            rw [M13_3a]; simp only [hlt, h0, Int.toNat_natCast, hbe, hn1, w3, cells_int, toInt_int, isInt_u8, len_beq1, getD_one, aIf_true, aIf_false, n0, n0', n1, g1, g2, g3, hce, l1]; rw [copF_stop hst]; rfl
          have l1 : decide ((c : Int) < 2) = false := decide_eq_false (by omega)
          by_cases hhi : xs.length - j < c
          · have l2 : decide ((c : Int) > ((xs.length - j : Nat) : Int)) = true := decide_eq_true (by omega)
            have hst : copStop xs j = true := by rw [hS, l2, Bool.or_true]
            rw [M13_3a]; simp only [hlt, h0, Int.toNat_natCast, hbe, hn1, w3, cells_int, toInt_int, isInt_u8, len_beq1, getD_one, aIf_true, aIf_false, n0, n0', n1, g1, g2, g3, hce, l1, w4, l2]; rw [copF_stop hst]; rfl
          have l2 : decide ((c : Int) > ((xs.length - j : Nat) : Int)) = false := decide_eq_false (by omega)
          have hst : copStop xs j = false := by rw [hS, l1, l2]; rfl
          have w5 : IntKind.i64.wrap ((j : Int) + (c : Int)) = ((j + c : Nat) : Int) := by rw [i64_of (by omega) (by omega)]; omega
          have hcF := copF_n (out := ([] : List AV)) hst hA1 hcA
          rw [hbA] at hcF
          by_cases hk : 128 ≤ b
          · have k1 : decide ((b : Int) ≥ 128) = true := decide_eq_true (by omega)
            have k2 : decide ((128 : Int) ≤ (b : Int)) = true := decide_eq_true (by omega)
            have k3 : decide ((j : Int) ≤ ((j + c : Nat) : Int)) = true := decide_eq_true (by omega)
            have k4 : decide (((j + c : Nat) : Int) ≤ (xs.length : Int)) = true := decide_eq_true (by omega)
            have hseg : (List.drop j (List.take (j + c) xs)).length = c := seg_len (by omega)
            have hcl := ints_cells (intsB_drop j (intsB_take hx (j + c)))
            have hsne : List.drop j (List.take (j + c) xs) ≠ [] := fun h => (by rw [h] at hseg; simp at hseg; omega)
            have k5 : (c == 0) = false := beq_eq_false_iff_ne.2 (by omega)
            have k6 : c.ble 140737488355328 = true := by rw [Nat.ble_eq]; omega
            have hs2 := isNil_app (l := []) hsne
            rw [List.nil_append] at hs2
            rw [M13_3a]; simp only [hlt, h0, Int.toNat_natCast, hbe, hn1, w3, cells_int, toInt_int, isInt_u8, len_beq1, getD_one, aIf_true, aIf_false, n0, n0', n1, g1, g2, g3, hce, l1, l2, w4, w5, k1, k3, k4, hcl, hseg, k5, k6, beq_self_eq_true, Nat.mul_one]
            rw [k2, cond_true, List.nil_append] at hcF
            rw [hcF]; show _ = k .normal [_, (3, slB (List.drop j (List.take (j + c) xs))), _] (hpB (List.drop j (List.take (j + c) xs))); rw [slB_ne hs2, hpB_ne hs2, hseg]
          have k1 : decide ((b : Int) ≥ 128) = false := decide_eq_false (by omega)
          have k2 : decide ((128 : Int) ≤ (b : Int)) = false := decide_eq_false (by omega)
          rw [k2, cond_false] at hcF
          rw [M13_3a]; simp only [hlt, h0, Int.toNat_natCast, hbe, hn1, w3, cells_int, toInt_int, isInt_u8, len_beq1, getD_one, aIf_true, aIf_false, n0, n0', n1, g1, g2, g3, hce, l1, l2, w4, w5, k1]; rw [hcF]; rfl
        | false =>
          show headedK C13 (loopB Try.f13 0) [(0, .fs 1 xs fl), (3, slB out), (4, .int .i64 (j : Int))] (hpB out) k = _
          rw [slB_ne hn, hpB_ne hn]
          by_cases hb0 : b = 0
          · subst hb0
            have hst := copStop_0 (xs := xs) (j := j) hbA
            rw [M13_3b]; simp only [hlt, h0, Int.toNat_natCast, hbe, hn1, w3, cells_int, toInt_int, isInt_u8, len_beq1, getD_one, aIf_true, aIf_false, Int.natCast_zero, beq_self_eq_true]; rw [copF_stop hst]; show _ = k .normal [_, (3, slB out), _] (hpB out); rw [slB_ne hn, hpB_ne hn]
          by_cases hb1 : b = 1
          · subst hb1
            have e10 : (((1 : Nat) : Int) == 0) = false := rfl
            have e11 : (((1 : Nat) : Int) == 1) = true := rfl
            have d10 : (((1 : Nat) : Int) != 0) = true := rfl
            rw [M13_3b]; simp only [hlt, h0, Int.toNat_natCast, hbe, hn1, w3, cells_int, toInt_int, isInt_u8, len_beq1, getD_one, aIf_true, aIf_false, e10, e11, d10]; rw [copF_1 hbA]; show _ = k .normal [_, (3, slB out), _] (hpB out); rw [slB_ne hn, hpB_ne hn]
          have hA0 : bAt xs j ≠ 0 := by rw [hbA]; omega
          have hA1 : bAt xs j ≠ 1 := by rw [hbA]; omega
          have n0 : ((b : Int) == 0) = false := beq_eq_false_iff_ne.2 (by omega)
          have n0' : ((b : Int) != 0) = true := by rw [bne, n0]; rfl
          have n1 : ((b : Int) == 1) = false := beq_eq_false_iff_ne.2 (by omega)
          have hS := copStop_n hA0 hA1
          by_cases hge : xs.length ≤ j + 1
          · have hst : copStop xs j = true := by rw [hS, decide_eq_true hge]; rfl
            have g1 : decide (((j + 1 : Nat) : Int) ≥ (xs.length : Int)) = true := decide_eq_true (by omega)
            rw [M13_3b]; simp only [hlt, h0, Int.toNat_natCast, hbe, hn1, w3, cells_int, toInt_int, isInt_u8, len_beq1, getD_one, aIf_true, aIf_false, n0, n0', n1, g1]; rw [copF_stop hst]; show _ = k .normal [_, (3, slB out), _] (hpB out); rw [slB_ne hn, hpB_ne hn]
          obtain ⟨c, hc, hce⟩ := u8_get hx (j + 1) (by omega)
          have hcA : bAt xs (j + 1) = (c : Int) := by unfold bAt; rw [hce]; rfl
          have g1 : decide (((j + 1 : Nat) : Int) ≥ (xs.length : Int)) = false := decide_eq_false (by omega)
          have g2 : decide ((0 : Int) ≤ ((j + 1 : Nat) : Int)) = true := decide_eq_true (by omega)
          have g3 : decide (((j + 1 : Nat) : Int) < (xs.length : Int)) = true := decide_eq_true (by omega)
          have w4 : IntKind.i64.wrap (c : Int) = (c : Int) := i64_of (by omega) (by omega)
          rw [decide_eq_false hge, hcA, Bool.false_or] at hS
          by_cases hlo : c < 2
          · have l1 : decide ((c : Int) < 2) = true := decide_eq_true (by omega)
            have hst : copStop xs j = true := by rw [hS, l1]; rfl
            rw [M13_3b]; simp only [hlt, h0, Int.toNat_natCast, hbe, hn1, w3, cells_int, toInt_int, isInt_u8, len_beq1, getD_one, aIf_true, aIf_false, n0, n0', n1, g1, g2, g3, hce, l1]; rw [copF_stop hst]; show _ = k .normal [_, (3, slB out), _] (hpB out); rw [slB_ne hn, hpB_ne hn]
          have l1 : decide ((c : Int) < 2) = false := decide_eq_false (by omega)
          by_cases hhi : xs.length - j < c
          · have l2 : decide ((c : Int) > ((xs.length - j : Nat) : Int)) = true := decide_eq_true (by omega)
            have hst : copStop xs j = true := by rw [hS, l2, Bool.or_true]
            rw [M13_3b]; simp only [hlt, h0, Int.toNat_natCast, hbe, hn1, w3, cells_int, toInt_int, isInt_u8, len_beq1, getD_one, aIf_true, aIf_false, n0, n0', n1, g1, g2, g3, hce, l1, w4, l2]; rw [copF_stop hst]; show _ = k .normal [_, (3, slB out), _] (hpB out); rw [slB_ne hn, hpB_ne hn]
          have l2 : decide ((c : Int) > ((xs.length - j : Nat) : Int)) = false := decide_eq_false (by omega)
          have hst : copStop xs j = false := by rw [hS, l1, l2]; rfl
          have w5 : IntKind.i64.wrap ((j : Int) + (c : Int)) = ((j + c : Nat) : Int) := by rw [i64_of (by omega) (by omega)]; omega
          have hcF := copF_n (out := out) hst hA1 hcA
          rw [hbA] at hcF
          by_cases hk : 128 ≤ b
          · have k1 : decide ((b : Int) ≥ 128) = true := decide_eq_true (by omega)
            have k2 : decide ((128 : Int) ≤ (b : Int)) = true := decide_eq_true (by omega)
            have k3 : decide ((j : Int) ≤ ((j + c : Nat) : Int)) = true := decide_eq_true (by omega)
            have k4 : decide (((j + c : Nat) : Int) ≤ (xs.length : Int)) = true := decide_eq_true (by omega)
            have hseg : (List.drop j (List.take (j + c) xs)).length = c := seg_len (by omega)
            have hcl := ints_cells (intsB_drop j (intsB_take hx (j + c)))
            have hsne : List.drop j (List.take (j + c) xs) ≠ [] := fun h => (by rw [h] at hseg; simp at hseg; omega)
            have k5 : (out.length == 0) = false := beq_eq_false_iff_ne.2 (fun h => by cases out with | nil => cases hn | cons => simp at h)
            have k6 : ((out.length + c) * 1).ble 140737488355328 = true := by rw [Nat.ble_eq]; omega
            have k7 : (c == c * 1) = true := beq_iff_eq.2 (by omega)
            have k8 : max out.length ((out.length + c) * 1) = out.length + c := by omega
            rw [M13_3b]; simp only [hlt, h0, Int.toNat_natCast, hbe, hn1, w3, cells_int, toInt_int, isInt_u8, len_beq1, getD_one, aIf_true, aIf_false, n0, n0', n1, g1, g2, g3, hce, l1, l2, w4, w5, k1, k3, k4, hcl, hseg, k5, k6, k7, k8, beq_self_eq_true, take_put]
            rw [k2, cond_true] at hcF
            rw [hcF]; show _ = k .normal [_, (3, slB (out ++ List.drop j (List.take (j + c) xs))), _] (hpB (out ++ List.drop j (List.take (j + c) xs))); rw [slB_ne (isNil_app hsne), hpB_ne (isNil_app hsne), List.length_append, hseg]
          have k1 : decide ((b : Int) ≥ 128) = false := decide_eq_false (by omega)
          have k2 : decide ((128 : Int) ≤ (b : Int)) = false := decide_eq_false (by omega)
          rw [k2, cond_false] at hcF
          rw [M13_3b]; simp only [hlt, h0, Int.toNat_natCast, hbe, hn1, w3, cells_int, toInt_int, isInt_u8, len_beq1, getD_one, aIf_true, aIf_false, n0, n0', n1, g1, g2, g3, hce, l1, l2, w4, w5, k1]; rw [hcF]; show _ = k .normal [_, (3, slB out), _] (hpB out); rw [slB_ne hn, hpB_ne hn]
      have stop : ∀ s : Nat × List AV, (intsB .u8 s.2 = true ∧ s.2.length ≤ s.1 ∧ s.1 ≤ xs.length) → copC xs s = false → ∀ k, headedK C13 (loopB Try.f13 0) [(0, .fs 1 xs fl), (3, slB s.2), (4, .int .i64 (s.1 : Int))] (hpB s.2) k = k (.exit 0) [(0, .fs 1 xs fl), (3, slB s.2), (4, .int .i64 (s.1 : Int)), (9, .bool false)] (hpB s.2) := by
        intro s hI hc k
        obtain ⟨j, out⟩ := s
        have hge : decide ((j : Int) < (xs.length : Int)) = false := decide_eq_false (by unfold copC at hc; simp at hc; omega)
        cases hn : isNil out with
        | true =>
          obtain rfl := isNil_eq hn
          show headedK C13 (loopB Try.f13 0) [(0, .fs 1 xs fl), (3, .fs 0 [] .nil), (4, .int .i64 (j : Int))] [] k = _
          rw [M13_3a]; simp only [hge, aIf_false]; rfl
        | false =>
          show headedK C13 (loopB Try.f13 0) [(0, .fs 1 xs fl), (3, slB out), (4, .int .i64 (j : Int))] (hpB out) k = k (.exit 0) [(0, .fs 1 xs fl), (3, slB out), (4, .int .i64 (j : Int)), (9, .bool false)] (hpB out)
          rw [slB_ne hn, hpB_ne hn, M13_3b]; simp only [hge, aIf_false]
      obtain ⟨m, hm⟩ := iter_while (F := headedK C13 (loopB Try.f13 0)) (ts := fun s => [(0, .fs 1 xs fl), (3, slB s.2), (4, .int .i64 (s.1 : Int))]) (H := fun s => hpB s.2) (c := copC xs) (f := copF xs) (I := fun s => intsB .u8 s.2 = true ∧ s.2.length ≤ s.1 ∧ s.1 ≤ xs.length) (μ := fun s => xs.length - s.1) (ee := fun _ => .exit 0) (te := fun s => [(0, .fs 1 xs fl), (3, slB s.2), (4, .int .i64 (s.1 : Int)), (9, .bool false)]) (He := fun s => hpB s.2)
        (fun s hI hc => by
          have hlt : s.1 < xs.length := by unfold copC at hc; simp at hc; omega
          exact ⟨⟨copF_ints hx hI.1, copF_len hlt hI.2.1, (copF_lt hlt).2⟩, by have := copF_lt hlt; omega, key s hI hlt⟩)
        (fun s hI hc => ⟨(by intro h; cases h), stop s hI hc⟩) xs.length (0, []) (by omega) ⟨rfl, Nat.le_refl _, Nat.zero_le _⟩
      refine ⟨m, fun k => ?_⟩
      refine Eq.trans ?_ (hm k).symm
      have hfin : (whileF (copC xs) (copF xs) xs.length (0, [])).1 = xs.length := copC_end xs _ _ (by omega) (by omega)
      show _ = k (.exit 0) [(0, .fs 1 xs fl), (3, slB (copL xs)), (4, .int .i64 ((whileF (copC xs) (copF xs) xs.length (0, [])).1 : Int)), (9, .bool false)] (hpB (copL xs))
      rw [hfin]
      cases hn : isNil (copL xs) with
      | true => rw [isNil_eq hn]; rfl
      | false => rw [slB_ne hn, hpB_ne hn]; rfl
    · exact .inl fun k => by rw [aIf_neg hp]
  · exact .inl fun k => rfl)
theorem C13_loops : ∀ c, Try.f13.body = some c → LoopsOK C13 c := LoopsOK.of 2 (by kernel_rfl) (fun j hj S hS => by
  match j, hj with
  | 0, _ => rw [C13_l0] at hS; cases hS; exact L13_3_ok
  | 1, _ => rw [C13_l1] at hS; cases hS; exact L13_15_ok
  | n + 2, hj => omega)
noncomputable def B13 : FSpec := inlineK C13 Try.f13
noncomputable def S13 : FSpec := fun args H k => match args, H with
  | [.fs 1 xs fl], [] => aIf (intsB .u8 xs && decide (xs.length ≤ 100000)) (k (.ret (.fs 1 (copiedL xs) (copFl xs))) []) none
  | _, _ => none
theorem B13_ok : SpecOK Try.prog 13 B13 := inlineK_ok C13_ok Try.func13 C13_loops
theorem N13 (xs : List AV) (fl : SF) (k : KE) : B13 [.fs 1 xs fl] [] k =
  aIf (true && intsB IntKind.u8 xs && decide (xs.length ≤ 100000)) (aIf (Pl.isNil (Pl.copL xs)) (k (AEnd.ret (AV.fs 1 [] SF.nil)) []) (aIf ((Pl.copL xs).length == (Pl.copL xs).length && (Pl.copL xs).length == (Pl.copL xs).length && (Pl.copL xs).length == (Pl.copL xs).length && decide ((Pl.copL xs).length ≤ 200000) && !Pl.isNil (Pl.copL xs) && intsB IntKind.u8 (Pl.copL xs)) (aIf ((Pl.padL (Pl.copL xs)).length == (Pl.padL (Pl.copL xs)).length) (aIf (decide (0 + (Pl.padL (Pl.copL xs)).length * 1 ≤ (Pl.padL (Pl.copL xs)).length)) (aIf (flatL (List.take ((Pl.padL (Pl.copL xs)).length * 1) (List.drop 0 (Pl.padL (Pl.copL xs))))) (k (AEnd.ret (AV.fs 1 (List.take (Pl.padL (Pl.copL xs)).length (List.drop 0 (Pl.padL (Pl.copL xs)))) SF.any)) []) none) none) none) none)) none := by kernel_rfl
theorem S13_ok : SpecOK Try.prog 13 S13 := by
  refine B13_ok.turn fun args H => ?_
  unfold S13
  split
  · rename_i xs fl
    rcases Bool.eq_false_or_eq_true (intsB .u8 xs && decide (xs.length ≤ 100000)) with hp | hp
    · refine .inr fun k => ?_
      rw [aIf_pos hp, N13]
      obtain ⟨hx, hL⟩ : intsB .u8 xs = true ∧ xs.length ≤ 100000 := by simpa only [Bool.and_eq_true, decide_eq_true_eq] using hp
      have hg : (true && intsB IntKind.u8 xs && decide (xs.length ≤ 100000)) = true := by rw [hx, decide_eq_true hL]; rfl
      obtain ⟨h1, h2⟩ := copL_ok hx
      rw [aIf_pos hg]
      cases hn : isNil (copL xs) with
      | true =>
        rw [aIf_true]
        unfold copiedL copFl
        rw [hn, isNil_eq hn]; rfl
      | false =>
        obtain ⟨g1, g2, g3⟩ := padF_ints 4 _ h1
        have e1 : copFl xs = .any := by unfold copFl; rw [hn]; rfl
        have e2 : flatL (List.take ((padL (copL xs)).length * 1) (List.drop 0 (padL (copL xs)))) = true := by rw [List.drop_zero, Nat.mul_one, List.take_length]; exact ints_flat g1
        rw [aIf_false, e1, decide_eq_true (show (copL xs).length ≤ 200000 by omega), h1, e2, decide_eq_true (show 0 + (padL (copL xs)).length * 1 ≤ (padL (copL xs)).length by omega), List.drop_zero, List.take_length]
        simp only [beq_self_eq_true, Bool.and_self, Bool.not_false, aIf_true]
        rfl
    · exact .inl fun k => by rw [aIf_neg hp]
  · exact .inl fun k => rfl
theorem En13 : Enters Try.prog 13 := ⟨_, Try.func13, by decide, rfl⟩

/-- ferryman/split.pieces$1 -/
noncomputable def T53 : List (FuncId × FSpec) := [(13, S13), (52, S52)]
theorem T53_ok : TabOK Try.prog T53 := TabOK.cons En13 S13_ok (TabOK.cons En52 S52_ok (TabOK.nil _))
noncomputable def C53 : Ctx := (ctx E T53 [] [(0, [0, 1, 2, 4, 5]), (1, [0, 1, 2, 4, 5, 6]), (2, [0, 1, 2, 4, 5, 6]), (3, [0, 1, 2, 5, 6, 7]), (4, [0, 1, 2, 5, 6, 7, 8]), (5, [0, 1, 2, 5, 6, 7, 8, 9]), (6, [0, 1, 2, 5, 6, 7, 8, 9, 37]), (7, [0, 1, 2, 5, 6, 8, 9]), (8, [0, 1, 2, 5, 6, 8, 9]), (9, [0, 1, 2, 5, 6, 8, 9]), (10, [0, 1, 2, 5, 8, 53]), (11, [0, 1, 2, 5]), (12, [0, 1, 2, 4, 5]), (1000001, [0, 1, 2, 4, 5])] [] 61 70)
theorem C53_ok : CtxOK Try.prog C53 := ctx_ok E_ok E_flds mixed T53_ok
noncomputable def S53 : FSpec := inlineK C53 Try.f53
theorem S53_ok : SpecOK Try.prog 53 S53 := inlineK_ok C53_ok Try.func53 (fun _ _ => LoopsOK.none _)
theorem En53 : Enters Try.prog 53 := ⟨_, Try.func53, by decide, rfl⟩

/-- ferryman/split.pieces -/
noncomputable def T40 : List (FuncId × FSpec) := [(53, S53)]
theorem T40_ok : TabOK Try.prog T40 := TabOK.cons En53 S53_ok (TabOK.nil _)
noncomputable def C40 : Ctx := (ctx E T40 [] [(0, [2, 3]), (1, [4])] [] 6 70)
theorem C40_ok : CtxOK Try.prog C40 := ctx_ok E_ok E_flds mixed T40_ok
noncomputable def S40 : FSpec := inlineK C40 Try.f40
theorem S40_ok : SpecOK Try.prog 40 S40 := inlineK_ok C40_ok Try.func40 (fun _ _ => LoopsOK.none _)
theorem En40 : Enters Try.prog 40 := ⟨_, Try.func40, by decide, rfl⟩
end Go.Proofs.Ytohfnoepdbkkeaa
