import Derived.Test.YtkiipegoooldiaaA20
import Derived.Test.YtkiipegoooldiaaRows
import Derived.Test.YtkiipegoooldiaaPPortAns
namespace Go.Proofs.Ytkiipegoooldiaa
open Go.Abs Go.Pl

set_option maxRecDepth 10000 in
noncomputable def E : Env :=
  Env.mk [none, some (TI.mk (TypeDesc.func (Array.mk []) (Array.mk []) false) 1 8 [AV.nilf] true false [CK.other]), some (TI.mk (TypeDesc.int IntKind.i64) 1 8 [AV.int IntKind.i64 0] true true [CK.int IntKind.i64]), some (TI.mk (TypeDesc.int IntKind.i64) 1 8 [AV.int IntKind.i64 0] true true [CK.int IntKind.i64]), some (TI.mk TypeDesc.bool 1 1 [AV.bool false] true true [CK.bool]), some (TI.mk (TypeDesc.int IntKind.u8) 1 1 [AV.int IntKind.u8 0] true true [CK.int IntKind.u8]), some (TI.mk (TypeDesc.int IntKind.u8) 1 1 [AV.int IntKind.u8 0] true true [CK.int IntKind.u8]), some (TI.mk (TypeDesc.struct (Array.mk [Field.mk "x" 2 0 false "" "runtime" 0, Field.mk "y" 3 1 false "" "runtime" 8, Field.mk "signed" 4 2 false "" "runtime" 16, Field.mk "code" 6 3 false "" "runtime" 17])) 4 24 [AV.int IntKind.i64 0, AV.int IntKind.i64 0, AV.bool false, AV.int IntKind.u8 0] true true [CK.int IntKind.i64, CK.int IntKind.i64, CK.bool, CK.int IntKind.u8]), some (TI.mk (TypeDesc.struct (Array.mk [Field.mk "x" 2 0 false "" "runtime" 0, Field.mk "y" 3 1 false "" "runtime" 8, Field.mk "signed" 4 2 false "" "runtime" 16, Field.mk "code" 6 3 false "" "runtime" 17])) 4 24 [AV.int IntKind.i64 0, AV.int IntKind.i64 0, AV.bool false, AV.int IntKind.u8 0] true true [CK.int IntKind.i64, CK.int IntKind.i64, CK.bool, CK.int IntKind.u8]), some (TI.mk TypeDesc.string 1 16 [AV.str (ByteArray.mk (Array.mk []))] true true [CK.str]), some (TI.mk TypeDesc.string 1 16 [AV.str (ByteArray.mk (Array.mk []))] true true [CK.str]), some (TI.mk TypeDesc.string 1 16 [AV.str (ByteArray.mk (Array.mk []))] true true [CK.str]), some (TI.mk (TypeDesc.int IntKind.u64) 1 8 [AV.int IntKind.u64 0] true true [CK.int IntKind.u64]), some (TI.mk (TypeDesc.struct (Array.mk [Field.mk "msg" 9 0 false "" "runtime" 0, Field.mk "addr" 12 1 false "" "runtime" 16])) 2 24 [AV.str (ByteArray.mk (Array.mk [])), AV.int IntKind.u64 0] false true [CK.str, CK.int IntKind.u64]), some (TI.mk (TypeDesc.struct (Array.mk [Field.mk "msg" 9 0 false "" "runtime" 0, Field.mk "addr" 12 1 false "" "runtime" 16])) 2 24 [AV.str (ByteArray.mk (Array.mk [])), AV.int IntKind.u64 0] false true [CK.str, CK.int IntKind.u64]), some (TI.mk (TypeDesc.pointer 112) 1 8 [AV.nilp] true true [CK.other]), some (TI.mk (TypeDesc.pointer 115) 1 8 [AV.nilp] true true [CK.other]), some (TI.mk (TypeDesc.pointer 124) 1 8 [AV.nilp] true true [CK.other]), some (TI.mk (TypeDesc.struct (Array.mk [Field.mk "typ" 17 0 false "" "internal/runtime/maps" 0])) 1 8 [AV.nilp] false true [CK.other]), some (TI.mk (TypeDesc.struct (Array.mk [Field.mk "typ" 17 0 false "" "internal/runtime/maps" 0])) 1 8 [AV.nilp] false true [CK.other]), some (TI.mk (TypeDesc.interface (Array.mk [])) 1 16 [AV.nili] true true [CK.other]), some (TI.mk (TypeDesc.int IntKind.i32) 1 4 [AV.int IntKind.i32 0] true true [CK.int IntKind.i32]), some (TI.mk (TypeDesc.slice 5) 1 24 [AV.fs 1 [] SF.nil] true false [CK.slice 1]), some (TI.mk (TypeDesc.int IntKind.u64) 1 8 [AV.int IntKind.u64 0] true true [CK.int IntKind.u64]), some (TI.mk (TypeDesc.func (Array.mk [22]) (Array.mk [22]) false) 1 8 [AV.nilf] true false [CK.other]), some (TI.mk (TypeDesc.int IntKind.i64) 1 8 [AV.int IntKind.i64 0] true true [CK.int IntKind.i64]), none, some (TI.mk (TypeDesc.func (Array.mk [22, 3, 3, 23]) (Array.mk [22, 25]) false) 1 8 [AV.nilf] true false [CK.other]), some (TI.mk (TypeDesc.func (Array.mk []) (Array.mk [4]) false) 1 8 [AV.nilf] true false [CK.other]), none, some (TI.mk (TypeDesc.func (Array.mk [22, 3, 3]) (Array.mk [23, 25]) false) 1 8 [AV.nilf] true false [CK.other]), some (TI.mk (TypeDesc.func (Array.mk [22, 3]) (Array.mk [23]) false) 1 8 [AV.nilf] true false [CK.other]), none, some (TI.mk (TypeDesc.func (Array.mk [22, 3, 3]) (Array.mk [9, 25]) false) 1 8 [AV.nilf] true false [CK.other]), none, some (TI.mk (TypeDesc.func (Array.mk [9]) (Array.mk [22, 3, 3, 25]) false) 1 8 [AV.nilf] true false [CK.other]), some (TI.mk (TypeDesc.func (Array.mk [22, 3, 3, 23, 3]) (Array.mk [4]) false) 1 8 [AV.nilf] true false [CK.other]), some (TI.mk (TypeDesc.slice 55) 1 24 [AV.fs 2 [] SF.nil] true false [CK.slice 2]), some (TI.mk (TypeDesc.func (Array.mk [37]) (Array.mk [22, 25]) true) 1 8 [AV.nilf] true false [CK.other]), none, some (TI.mk (TypeDesc.func (Array.mk [37]) (Array.mk [22, 3]) false) 1 8 [AV.nilf] true false [CK.other]), some (TI.mk (TypeDesc.func (Array.mk [37]) (Array.mk [4]) false) 1 8 [AV.nilf] true false [CK.other]), none, some (TI.mk (TypeDesc.func (Array.mk [22, 3, 3]) (Array.mk [23, 3]) false) 1 8 [AV.nilf] true false [CK.other]), some (TI.mk (TypeDesc.func (Array.mk [22, 3, 3, 23]) (Array.mk [22, 3]) false) 1 8 [AV.nilf] true false [CK.other]), some (TI.mk (TypeDesc.func (Array.mk [22, 3, 3, 23]) (Array.mk [4]) false) 1 8 [AV.nilf] true false [CK.other]), none, some (TI.mk (TypeDesc.func (Array.mk [22, 22, 3]) (Array.mk [4, 25]) false) 1 8 [AV.nilf] true false [CK.other]), none, some (TI.mk (TypeDesc.func (Array.mk [22, 22, 3]) (Array.mk [4, 3]) false) 1 8 [AV.nilf] true false [CK.other]), some (TI.mk (TypeDesc.func (Array.mk [22, 3]) (Array.mk [22, 25]) false) 1 8 [AV.nilf] true false [CK.other]), some (TI.mk (TypeDesc.func (Array.mk [22, 3]) (Array.mk [22, 3]) false) 1 8 [AV.nilf] true false [CK.other]), some (TI.mk (TypeDesc.func (Array.mk [22, 22]) (Array.mk [3]) false) 1 8 [AV.nilf] true false [CK.other]), some (TI.mk (TypeDesc.func (Array.mk [22, 22, 3]) (Array.mk [4]) false) 1 8 [AV.nilf] true false [CK.other]), some (TI.mk (TypeDesc.struct (Array.mk [Field.mk "N" 3 0 false "" "" 0, Field.mk "V" 23 1 false "" "" 8])) 2 16 [AV.int IntKind.i64 0, AV.int IntKind.u64 0] true true [CK.int IntKind.i64, CK.int IntKind.u64]), some (TI.mk (TypeDesc.struct (Array.mk [Field.mk "N" 3 0 false "" "" 0, Field.mk "V" 23 1 false "" "" 8])) 2 16 [AV.int IntKind.i64 0, AV.int IntKind.u64 0] true true [CK.int IntKind.i64, CK.int IntKind.u64]), none, some (TI.mk (TypeDesc.func (Array.mk [22, 3, 3]) (Array.mk [9, 3]) false) 1 8 [AV.nilf] true false [CK.other]), none, some (TI.mk (TypeDesc.func (Array.mk [9]) (Array.mk [22, 3, 3, 3]) false) 1 8 [AV.nilf] true false [CK.other]), some (TI.mk (TypeDesc.func (Array.mk [22, 3, 3, 9]) (Array.mk [4]) false) 1 8 [AV.nilf] true false [CK.other]), some (TI.mk (TypeDesc.int IntKind.u16) 1 2 [AV.int IntKind.u16 0] true true [CK.int IntKind.u16]), some (TI.mk (TypeDesc.struct (Array.mk [Field.mk "Offset" 3 0 false "" "" 0, Field.mk "Len" 3 1 false "" "" 8, Field.mk "PSID" 61 2 false "" "" 16])) 3 24 [AV.int IntKind.i64 0, AV.int IntKind.i64 0, AV.int IntKind.u16 0] true true [CK.int IntKind.i64, CK.int IntKind.i64, CK.int IntKind.u16]), some (TI.mk (TypeDesc.struct (Array.mk [Field.mk "Offset" 3 0 false "" "" 0, Field.mk "Len" 3 1 false "" "" 8, Field.mk "PSID" 61 2 false "" "" 16])) 3 24 [AV.int IntKind.i64 0, AV.int IntKind.i64 0, AV.int IntKind.u16 0] true true [CK.int IntKind.i64, CK.int IntKind.i64, CK.int IntKind.u16]), some (TI.mk (TypeDesc.func (Array.mk [63, 61]) (Array.mk [4, 25]) false) 1 8 [AV.nilf] true false [CK.other]), none, some (TI.mk (TypeDesc.func (Array.mk [3, 3, 61]) (Array.mk [61, 4, 25]) false) 1 8 [AV.nilf] true false [CK.other]), some (TI.mk (TypeDesc.func (Array.mk [63, 61, 61]) (Array.mk [4]) false) 1 8 [AV.nilf] true false [CK.other]), none, some (TI.mk (TypeDesc.func (Array.mk [63]) (Array.mk [3, 25]) false) 1 8 [AV.nilf] true false [CK.other]), none, some (TI.mk (TypeDesc.func (Array.mk [63]) (Array.mk [3, 3]) false) 1 8 [AV.nilf] true false [CK.other]), none, some (TI.mk (TypeDesc.func (Array.mk [63, 3]) (Array.mk [61, 25]) false) 1 8 [AV.nilf] true false [CK.other]), none, some (TI.mk (TypeDesc.func (Array.mk [63, 3]) (Array.mk [61, 3]) false) 1 8 [AV.nilf] true false [CK.other]), some (TI.mk (TypeDesc.func (Array.mk [63, 61]) (Array.mk [3, 25]) false) 1 8 [AV.nilf] true false [CK.other]), some (TI.mk (TypeDesc.func (Array.mk [63, 61]) (Array.mk [3, 3]) false) 1 8 [AV.nilf] true false [CK.other]), some (TI.mk (TypeDesc.func (Array.mk [63, 61]) (Array.mk [61, 25]) false) 1 8 [AV.nilf] true false [CK.other]), some (TI.mk (TypeDesc.func (Array.mk [63, 61]) (Array.mk [61, 3]) false) 1 8 [AV.nilf] true false [CK.other]), some (TI.mk (TypeDesc.func (Array.mk [63, 3, 61]) (Array.mk [4]) false) 1 8 [AV.nilf] true false [CK.other]), some (TI.mk (TypeDesc.func (Array.mk [63, 3]) (Array.mk [4]) false) 1 8 [AV.nilf] true false [CK.other]), some (TI.mk (TypeDesc.func (Array.mk [63, 61]) (Array.mk [4]) false) 1 8 [AV.nilf] true false [CK.other]), none, some (TI.mk (TypeDesc.func (Array.mk [3, 3, 61]) (Array.mk [61, 4, 3]) false) 1 8 [AV.nilf] true false [CK.other]), some (TI.mk (TypeDesc.func (Array.mk [63, 61]) (Array.mk [4, 3]) false) 1 8 [AV.nilf] true false [CK.other]), some (TI.mk (TypeDesc.func (Array.mk [63]) (Array.mk [25]) false) 1 8 [AV.nilf] true false [CK.other]), some (TI.mk (TypeDesc.func (Array.mk [63]) (Array.mk [3]) false) 1 8 [AV.nilf] true false [CK.other]), some (TI.mk (TypeDesc.slice 108) 1 24 [AV.fs 2 [] SF.nil] true false [CK.slice 2]), none, some (TI.mk (TypeDesc.func (Array.mk [63]) (Array.mk [88, 25]) false) 1 8 [AV.nilf] true false [CK.other]), none, some (TI.mk (TypeDesc.func (Array.mk [63]) (Array.mk [88, 3]) false) 1 8 [AV.nilf] true false [CK.other]), some (TI.mk (TypeDesc.func (Array.mk [88, 88]) (Array.mk [4]) false) 1 8 [AV.nilf] true false [CK.other]), some (TI.mk (TypeDesc.func (Array.mk [63]) (Array.mk [4]) false) 1 8 [AV.nilf] true false [CK.other]), some (TI.mk (TypeDesc.func (Array.mk [22, 3, 3]) (Array.mk [4]) false) 1 8 [AV.nilf] true false [CK.other]), some (TI.mk (TypeDesc.func (Array.mk [23, 3]) (Array.mk [4]) false) 1 8 [AV.nilf] true false [CK.other]), some (TI.mk (TypeDesc.func (Array.mk [22, 3, 23]) (Array.mk []) false) 1 8 [AV.nilf] true false [CK.other]), some (TI.mk (TypeDesc.int IntKind.u64) 1 8 [AV.int IntKind.u64 0] true true [CK.int IntKind.u64]), some (TI.mk (TypeDesc.func (Array.mk [9]) (Array.mk [3]) false) 1 8 [AV.nilf] true false [CK.other]), some (TI.mk (TypeDesc.slice 23) 1 24 [AV.fs 1 [] SF.nil] true false [CK.slice 1]), some (TI.mk (TypeDesc.func (Array.mk [100]) (Array.mk [22]) false) 1 8 [AV.nilf] true false [CK.other]), some (TI.mk (TypeDesc.func (Array.mk [22]) (Array.mk [100]) false) 1 8 [AV.nilf] true false [CK.other]), some (TI.mk (TypeDesc.int IntKind.u32) 1 4 [AV.int IntKind.u32 0] true true [CK.int IntKind.u32]), some (TI.mk (TypeDesc.func (Array.mk [3, 61]) (Array.mk [3]) false) 1 8 [AV.nilf] true false [CK.other]), some (TI.mk (TypeDesc.func (Array.mk [109]) (Array.mk []) false) 1 8 [AV.nilf] true false [CK.other]), some (TI.mk (TypeDesc.func (Array.mk [63]) (Array.mk [105]) false) 1 8 [AV.nilf] true false [CK.other]), some (TI.mk (TypeDesc.struct (Array.mk [Field.mk "From" 61 0 false "" "" 0, Field.mk "To" 61 1 false "" "" 2])) 2 4 [AV.int IntKind.u16 0, AV.int IntKind.u16 0] true true [CK.int IntKind.u16, CK.int IntKind.u16]), some (TI.mk (TypeDesc.struct (Array.mk [Field.mk "From" 61 0 false "" "" 0, Field.mk "To" 61 1 false "" "" 2])) 2 4 [AV.int IntKind.u16 0, AV.int IntKind.u16 0] true true [CK.int IntKind.u16, CK.int IntKind.u16]), some (TI.mk (TypeDesc.func (Array.mk [108]) (Array.mk [4]) false) 1 8 [AV.nilf] true false [CK.other]), some (TI.mk (TypeDesc.func (Array.mk []) (Array.mk [9]) false) 1 8 [AV.nilf] true false [CK.other]), some (TI.mk (TypeDesc.struct (Array.mk [Field.mk "_interface" 17 0 false "" "runtime" 0, Field.mk "concrete" 17 1 false "" "runtime" 8, Field.mk "asserted" 17 2 false "" "runtime" 16, Field.mk "missingMethod" 9 3 false "" "runtime" 24])) 4 40 [AV.nilp, AV.nilp, AV.nilp, AV.str (ByteArray.mk (Array.mk []))] false true [CK.other, CK.other, CK.other, CK.str]), some (TI.mk (TypeDesc.struct (Array.mk [Field.mk "_interface" 17 0 false "" "runtime" 0, Field.mk "concrete" 17 1 false "" "runtime" 8, Field.mk "asserted" 17 2 false "" "runtime" 16, Field.mk "missingMethod" 9 3 false "" "runtime" 24])) 4 40 [AV.nilp, AV.nilp, AV.nilp, AV.str (ByteArray.mk (Array.mk []))] false true [CK.other, CK.other, CK.other, CK.str]), some (TI.mk (TypeDesc.array 0 16) 0 0 [] true true []), some (TI.mk (TypeDesc.struct (Array.mk [Field.mk "_" 113 0 false "" "runtime" 0])) 0 0 [] false true []), some (TI.mk (TypeDesc.struct (Array.mk [Field.mk "_" 113 0 false "" "runtime" 0])) 0 0 [] false true []), some (TI.mk (TypeDesc.func (Array.mk []) (Array.mk [3]) false) 1 8 [AV.nilf] true false [CK.other]), some (TI.mk (TypeDesc.int IntKind.u8) 1 1 [AV.int IntKind.u8 0] true true [CK.int IntKind.u8]), some (TI.mk (TypeDesc.int IntKind.u8) 1 1 [AV.int IntKind.u8 0] true true [CK.int IntKind.u8]), some (TI.mk (TypeDesc.func (Array.mk [125, 125]) (Array.mk [4]) false) 1 8 [AV.nilf] true false [CK.other]), some (TI.mk (TypeDesc.pointer 5) 1 8 [AV.nilp] true true [CK.other]), some (TI.mk (TypeDesc.int IntKind.i32) 1 4 [AV.int IntKind.i32 0] true true [CK.int IntKind.i32]), some (TI.mk (TypeDesc.int IntKind.i32) 1 4 [AV.int IntKind.i32 0] true true [CK.int IntKind.i32]), some (TI.mk (TypeDesc.struct (Array.mk [Field.mk "Size_" 12 0 false "" "" 0, Field.mk "PtrBytes" 12 1 false "" "" 8, Field.mk "Hash" 103 2 false "" "" 16, Field.mk "TFlag" 117 3 false "" "" 20, Field.mk "Align_" 5 4 false "" "" 21, Field.mk "FieldAlign_" 5 5 false "" "" 22, Field.mk "Kind_" 118 6 false "" "" 23, Field.mk "Equal" 119 7 false "" "" 24, Field.mk "GCData" 120 8 false "" "" 32, Field.mk "Str" 121 9 false "" "" 40, Field.mk "PtrToThis" 122 10 false "" "" 44])) 11 48 [AV.int IntKind.u64 0, AV.int IntKind.u64 0, AV.int IntKind.u32 0, AV.int IntKind.u8 0, AV.int IntKind.u8 0, AV.int IntKind.u8 0, AV.int IntKind.u8 0, AV.nilf, AV.nilp, AV.int IntKind.i32 0, AV.int IntKind.i32 0] false false [CK.int IntKind.u64, CK.int IntKind.u64, CK.int IntKind.u32, CK.int IntKind.u8, CK.int IntKind.u8, CK.int IntKind.u8, CK.int IntKind.u8, CK.other, CK.other, CK.int IntKind.i32, CK.int IntKind.i32]), some (TI.mk (TypeDesc.struct (Array.mk [Field.mk "Size_" 12 0 false "" "" 0, Field.mk "PtrBytes" 12 1 false "" "" 8, Field.mk "Hash" 103 2 false "" "" 16, Field.mk "TFlag" 117 3 false "" "" 20, Field.mk "Align_" 5 4 false "" "" 21, Field.mk "FieldAlign_" 5 5 false "" "" 22, Field.mk "Kind_" 118 6 false "" "" 23, Field.mk "Equal" 119 7 false "" "" 24, Field.mk "GCData" 120 8 false "" "" 32, Field.mk "Str" 121 9 false "" "" 40, Field.mk "PtrToThis" 122 10 false "" "" 44])) 11 48 [AV.int IntKind.u64 0, AV.int IntKind.u64 0, AV.int IntKind.u32 0, AV.int IntKind.u8 0, AV.int IntKind.u8 0, AV.int IntKind.u8 0, AV.int IntKind.u8 0, AV.nilf, AV.nilp, AV.int IntKind.i32 0, AV.int IntKind.i32 0] false false [CK.int IntKind.u64, CK.int IntKind.u64, CK.int IntKind.u32, CK.int IntKind.u8, CK.int IntKind.u8, CK.int IntKind.u8, CK.int IntKind.u8, CK.other, CK.other, CK.int IntKind.i32, CK.int IntKind.i32]), some (TI.mk TypeDesc.unsafePointer 1 8 [AV.nilp] true true [CK.other])]
theorem E_ok : EnvOK Try.prog E := (show E = envOf Try.prog by kernel_rfl) ▸ envOf_ok _
theorem E_flds : FieldsOK E := fieldsB_ok (by kernel_rfl)
theorem mixed : Try.prog.follows .mixedOrders = true := by kernel_rfl
/-- ferryman/portset.Check -/
noncomputable def T47 : List (FuncId × FSpec) := []
theorem T47_ok : TabOK Try.prog T47 := TabOK.nil _
noncomputable def C47 : Ctx := (ctx E T47 [] [(0, [1]), (1, [33]), (2, [2]), (3, [2])] [] 34 70)
theorem C47_ok : CtxOK Try.prog C47 := ctx_ok E_ok E_flds mixed T47_ok
noncomputable def B47 : FSpec := inlineK C47 Try.f47
noncomputable def S47 : FSpec := fun args H k => match args, H with
  | [.agg [.int .i64 a, .int .i64 b, .int .u16 x]], [] => aIf (psetB a b x) (aIf (right a b x) (k (.ret (.int .i64 0)) []) (k (.ret (.int .i64 90)) [])) none
  | _, _ => none
theorem B47_ok : SpecOK Try.prog 47 B47 := inlineK_ok C47_ok Try.func47 (fun _ _ => LoopsOK.none _)
theorem N47 (a b x : Int) (k : KE) : B47 [.agg [.int .i64 a, .int .i64 b, .int .u16 x]] [] k =
    aIf (decide (a < 0)) (k (AEnd.ret (AV.int IntKind.i64 90)) [])
    (aIf (decide (a > 15)) (k (AEnd.ret (AV.int IntKind.i64 90)) [])
      (aIf (decide (b < 0)) (k (AEnd.ret (AV.int IntKind.i64 90)) [])
        (aIf (decide (b > IntKind.i64.wrap (16 - a))) (k (AEnd.ret (AV.int IntKind.i64 90)) [])
          (aIf (decide (IntKind.u64.wrap b < 0)) none
            (aIf ((IntKind.u32.wrap x).fdiv (2 ^ min (IntKind.u64.wrap b).toNat 32) != 0)
              (k (AEnd.ret (AV.int IntKind.i64 90)) []) (k (AEnd.ret (AV.int IntKind.i64 0)) [])))))) := by kernel_rfl
theorem S47_ok : SpecOK Try.prog 47 S47 := by
  refine B47_ok.turn fun args H => ?_
  unfold S47
  split
  · rename_i a b x
    rcases Bool.eq_false_or_eq_true (psetB a b x) with hp | hp
    · refine .inr fun k => ?_
      rw [aIf_pos hp, N47]
      exact check_law hp _ _
    · exact .inl fun k => by rw [aIf_neg hp]
  · exact .inl fun k => rfl
theorem En47 : Enters Try.prog 47 := ⟨_, Try.func47, by decide, rfl⟩

/-- ferryman/portset.low -/
noncomputable def T62 : List (FuncId × FSpec) := []
theorem T62_ok : TabOK Try.prog T62 := TabOK.nil _
noncomputable def C62 : Ctx := (ctx E T62 [] [(0, [1]), (1, [2])] [] 9 70)
theorem C62_ok : CtxOK Try.prog C62 := ctx_ok E_ok E_flds mixed T62_ok
noncomputable def S62 : FSpec := inlineK C62 Try.f62
theorem S62_ok : SpecOK Try.prog 62 S62 := inlineK_ok C62_ok Try.func62 (fun _ _ => LoopsOK.none _)
theorem En62 : Enters Try.prog 62 := ⟨_, Try.func62, by decide, rfl⟩
noncomputable def V62 : FSpec := fun args H k => match args, H with
  | [.agg [.int .i64 a, .int .i64 b, .int .u16 p]], [] => aIf (psetB a b p && right a b p) (k (.ret (.int .i64 (16 - a - b))) []) none
  | _, _ => none
theorem M62 (a b p : Int) (k : KE) : S62 [.agg [.int .i64 a, .int .i64 b, .int .u16 p]] [] k =
  k (AEnd.ret (AV.int IntKind.i64 (IntKind.i64.wrap (IntKind.i64.wrap (16 - a) - b)))) [] := by kernel_rfl
theorem V62_ok : SpecOK Try.prog 62 V62 := by
  refine S62_ok.turn fun args H => ?_
  unfold V62
  split
  · rename_i a b p
    rcases Bool.eq_false_or_eq_true (psetB a b p && right a b p) with hp | hp
    · refine .inr fun k => ?_
      rw [aIf_pos hp, M62]
      exact low_law hp k
    · exact .inl fun k => by rw [aIf_neg hp]
  · exact .inl fun k => rfl

/-- ferryman/portset.Of -/
noncomputable def T36 : List (FuncId × FSpec) := [(47, S47), (62, S62)]
theorem T36_ok : TabOK Try.prog T36 := TabOK.cons En47 S47_ok (TabOK.cons En62 S62_ok (TabOK.nil _))
noncomputable def C36 : Ctx := (ctx E T36 [] [(0, [0, 1, 2]), (1, [0, 1, 2, 9]), (2, [0, 1, 2, 9, 10]), (3, [0, 1, 2, 9, 10, 18]), (4, [6, 7, 8]), (5, [0, 1, 9, 11]), (6, [1, 9, 11, 31]), (7, [6, 7, 8]), (8, [6, 7, 8])] [] 43 70)
theorem C36_ok : CtxOK Try.prog C36 := ctx_ok E_ok E_flds mixed T36_ok
noncomputable def B36 : FSpec := inlineK C36 Try.f36
noncomputable def S36 : FSpec := fun args H k => match args, H with
  | [.int .i64 a, .int .i64 b, .int .u16 x], [] => aIf (psetB a b x) (aIf (right a b 0) (aIf (mine a x) (k (.ret (.tup [.int .u16 (psid a b x), .bool true, .int .i64 0])) []) (k (.ret (.tup [.int .u16 0, .bool false, .int .i64 0])) [])) (k (.ret (.tup [.int .u16 0, .bool false, .int .i64 90])) [])) none
  | _, _ => none
theorem B36_ok : SpecOK Try.prog 36 B36 := inlineK_ok C36_ok Try.func36 (fun _ _ => LoopsOK.none _)
theorem N36 (a b x : Int) (k : KE) : B36 [.int .i64 a, .int .i64 b, .int .u16 x] [] k =
    aIf (Pl.psetB a b 0)
  (aIf (Pl.right a b 0)
    (aIf (decide (a > 0))
      (aIf (decide (IntKind.u64.wrap (IntKind.i64.wrap (16 - a)) < 0)) none
        (aIf ((IntKind.u32.wrap x).fdiv (2 ^ min (IntKind.u64.wrap (IntKind.i64.wrap (16 - a))).toNat 32) == 0)
          (k (AEnd.ret (AV.tup [AV.int IntKind.u16 0, AV.bool false, AV.int IntKind.i64 0])) [])
          (aIf (decide (IntKind.u64.wrap (IntKind.i64.wrap (IntKind.i64.wrap (16 - a) - b)) < 0)) none
            (aIf (decide (IntKind.u64.wrap b < 0)) none
              (k
                (AEnd.ret
                  (AV.tup
                    [AV.int IntKind.u16
                        (IntKind.u16.wrap
                          (IntKind.u32.wrap
                            ↑(BitVec.ofInt 32
                                    ((IntKind.u32.wrap x).fdiv
                                      (2 ^
                                        min (IntKind.u64.wrap (IntKind.i64.wrap (IntKind.i64.wrap (16 - a) - b))).toNat
                                          32)) &&&
                                  BitVec.ofInt 32
                                    (IntKind.u32.wrap
                                      (IntKind.u32.wrap (1 * 2 ^ min (IntKind.u64.wrap b).toNat 32) - 1))).toNat)),
                      AV.bool true, AV.int IntKind.i64 0]))
                [])))))
      (aIf (decide (IntKind.u64.wrap (IntKind.i64.wrap (IntKind.i64.wrap (16 - a) - b)) < 0)) none
        (aIf (decide (IntKind.u64.wrap b < 0)) none
          (k
            (AEnd.ret
              (AV.tup
                [AV.int IntKind.u16
                    (IntKind.u16.wrap
                      (IntKind.u32.wrap
                        ↑(BitVec.ofInt 32
                                ((IntKind.u32.wrap x).fdiv
                                  (2 ^
                                    min (IntKind.u64.wrap (IntKind.i64.wrap (IntKind.i64.wrap (16 - a) - b))).toNat
                                      32)) &&&
                              BitVec.ofInt 32
                                (IntKind.u32.wrap
                                  (IntKind.u32.wrap (1 * 2 ^ min (IntKind.u64.wrap b).toNat 32) - 1))).toNat)),
                  AV.bool true, AV.int IntKind.i64 0]))
            []))))
    (k (AEnd.ret (AV.tup [AV.int IntKind.u16 0, AV.bool false, AV.int IntKind.i64 90])) []))
  none := by kernel_rfl
theorem S36_ok : SpecOK Try.prog 36 S36 := by
  refine B36_ok.turn fun args H => ?_
  unfold S36
  split
  · rename_i a b x
    rcases Bool.eq_false_or_eq_true (psetB a b x) with hp | hp
    · refine .inr fun k => ?_
      rw [aIf_pos hp, N36]
      exact of_law hp k
    · exact .inl fun k => by rw [aIf_neg hp]
  · exact .inl fun k => rfl
theorem En36 : Enters Try.prog 36 := ⟨_, Try.func36, by decide, rfl⟩

/-- ferryman/portset.Has -/
noncomputable def T34 : List (FuncId × FSpec) := [(36, S36), (47, S47)]
theorem T34_ok : TabOK Try.prog T34 := TabOK.cons En36 S36_ok (TabOK.cons En47 S47_ok (TabOK.nil _))
noncomputable def C34 : Ctx := (ctx E T34 [] [(0, [1, 2]), (1, [1, 2, 6]), (2, [1, 2, 6, 13]), (3, [4, 5]), (4, [2, 7, 8, 9]), (5, [4, 5])] [] 33 70)
theorem C34_ok : CtxOK Try.prog C34 := ctx_ok E_ok E_flds mixed T34_ok
noncomputable def B34 : FSpec := inlineK C34 Try.f34
noncomputable def S34 : FSpec := fun args H k => match args, H with
  | [.agg [.int .i64 a, .int .i64 b, .int .u16 p], .int .u16 x], [] => aIf (psetB a b p && psetB a b x) (aIf (right a b p) (k (.ret (.tup [.bool (mine a x && (psid a b x == p)), .int .i64 0])) []) (k (.ret (.tup [.bool false, .int .i64 90])) [])) none
  | _, _ => none
theorem B34_ok : SpecOK Try.prog 34 B34 := inlineK_ok C34_ok Try.func34 (fun _ _ => LoopsOK.none _)
theorem N34 (a b p x : Int) (k : KE) : B34 [.agg [.int .i64 a, .int .i64 b, .int .u16 p], .int .u16 x] [] k =
    aIf (Pl.psetB a b p)
  (aIf (Pl.right a b p)
    (aIf (Pl.psetB a b x)
      (aIf (Pl.right a b 0)
        (aIf (Pl.mine a x) (k (AEnd.ret (AV.tup [AV.bool (Pl.psid a b x == p), AV.int IntKind.i64 0])) [])
          (k (AEnd.ret (AV.tup [AV.bool false, AV.int IntKind.i64 0])) []))
        (k (AEnd.ret (AV.tup [AV.bool false, AV.int IntKind.i64 90])) []))
      none)
    (k (AEnd.ret (AV.tup [AV.bool false, AV.int IntKind.i64 90])) []))
  none := by kernel_rfl
theorem S34_ok : SpecOK Try.prog 34 S34 := by
  refine B34_ok.turn fun args H => ?_
  unfold S34
  split
  · rename_i a b p x
    rcases Bool.eq_false_or_eq_true (psetB a b p && psetB a b x) with hp | hp
    · refine .inr fun k => ?_
      rw [aIf_pos hp, N34]
      exact has_law hp k
    · exact .inl fun k => by rw [aIf_neg hp]
  · exact .inl fun k => rfl
theorem En34 : Enters Try.prog 34 := ⟨_, Try.func34, by decide, rfl⟩

/-- ferryman/portset.size -/
noncomputable def T63 : List (FuncId × FSpec) := [(62, S62)]
theorem T63_ok : TabOK Try.prog T63 := TabOK.cons En62 S62_ok (TabOK.nil _)
noncomputable def C63 : Ctx := (ctx E T63 [] [(0, [1]), (1, [2])] [] 6 70)
theorem C63_ok : CtxOK Try.prog C63 := ctx_ok E_ok E_flds mixed T63_ok
noncomputable def S63 : FSpec := inlineK C63 Try.f63
theorem S63_ok : SpecOK Try.prog 63 S63 := inlineK_ok C63_ok Try.func63 (fun _ _ => LoopsOK.none _)
theorem En63 : Enters Try.prog 63 := ⟨_, Try.func63, by decide, rfl⟩
noncomputable def V63 : FSpec := fun args H k => match args, H with
  | [.agg [.int .i64 a, .int .i64 b, .int .u16 p]], [] => aIf (psetB a b p && right a b p) (k (.ret (.int .i64 (mI a b))) []) none
  | _, _ => none
theorem M63 (a b p : Int) (k : KE) : S63 [.agg [.int .i64 a, .int .i64 b, .int .u16 p]] [] k =
  aIf (decide (IntKind.i64.wrap (IntKind.i64.wrap (16 - a) - b) < 0)) none (k (AEnd.ret (AV.int IntKind.i64 (IntKind.i64.wrap (1 * 2 ^ min (IntKind.i64.wrap (IntKind.i64.wrap (16 - a) - b)).toNat 64)))) []) := by kernel_rfl
theorem V63_ok : SpecOK Try.prog 63 V63 := by
  refine S63_ok.turn fun args H => ?_
  unfold V63
  split
  · rename_i a b p
    rcases Bool.eq_false_or_eq_true (psetB a b p && right a b p) with hp | hp
    · refine .inr fun k => ?_
      rw [aIf_pos hp, M63]
      exact size_law hp k
    · exact .inl fun k => by rw [aIf_neg hp]
  · exact .inl fun k => rfl

/-- ferryman/portset.Count -/
noncomputable def T37 : List (FuncId × FSpec) := [(47, S47), (63, S63)]
theorem T37_ok : TabOK Try.prog T37 := TabOK.cons En47 S47_ok (TabOK.cons En63 S63_ok (TabOK.nil _))
noncomputable def C37 : Ctx := (ctx E T37 [] [(0, [1]), (1, [1, 4]), (2, [1, 4, 9]), (3, [2, 3]), (4, [1, 5]), (5, [1, 5, 13]), (6, [1, 5]), (7, [2, 3])] [] 22 70)
theorem C37_ok : CtxOK Try.prog C37 := ctx_ok E_ok E_flds mixed T37_ok
noncomputable def B37 : FSpec := inlineK C37 Try.f37
noncomputable def S37 : FSpec := fun args H k => match args, H with
  | [.agg [.int .i64 a, .int .i64 b, .int .u16 x]], [] => aIf (psetB a b x) (aIf (right a b x) (k (.ret (.tup [.int .i64 (count a b), .int .i64 0])) []) (k (.ret (.tup [.int .i64 0, .int .i64 90])) [])) none
  | _, _ => none
theorem B37_ok : SpecOK Try.prog 37 B37 := inlineK_ok C37_ok Try.func37 (fun _ _ => LoopsOK.none _)
theorem N37 (a b x : Int) (k : KE) : B37 [.agg [.int .i64 a, .int .i64 b, .int .u16 x]] [] k =
    aIf (Pl.psetB a b x)
  (aIf (Pl.right a b x)
    (aIf (decide (a > 0))
      (aIf (decide (a < 0)) none
        (aIf (decide (IntKind.i64.wrap (IntKind.i64.wrap (16 - a) - b) < 0)) none
          (k
            (AEnd.ret
              (AV.tup
                [AV.int IntKind.i64
                    (IntKind.i64.wrap
                      (IntKind.i64.wrap (IntKind.i64.wrap (1 * 2 ^ min a.toNat 64) - 1) *
                        IntKind.i64.wrap (1 * 2 ^ min (IntKind.i64.wrap (IntKind.i64.wrap (16 - a) - b)).toNat 64))),
                  AV.int IntKind.i64 0]))
            [])))
      (aIf (decide (IntKind.i64.wrap (IntKind.i64.wrap (16 - a) - b) < 0)) none
        (k
          (AEnd.ret
            (AV.tup
              [AV.int IntKind.i64
                  (IntKind.i64.wrap
                    (1 * IntKind.i64.wrap (1 * 2 ^ min (IntKind.i64.wrap (IntKind.i64.wrap (16 - a) - b)).toNat 64))),
                AV.int IntKind.i64 0]))
          [])))
    (k (AEnd.ret (AV.tup [AV.int IntKind.i64 0, AV.int IntKind.i64 90])) []))
  none := by kernel_rfl
theorem S37_ok : SpecOK Try.prog 37 S37 := by
  refine B37_ok.turn fun args H => ?_
  unfold S37
  split
  · rename_i a b x
    rcases Bool.eq_false_or_eq_true (psetB a b x) with hp | hp
    · refine .inr fun k => ?_
      rw [aIf_pos hp, N37]
      exact count_law hp k
    · exact .inl fun k => by rw [aIf_neg hp]
  · exact .inl fun k => rfl
theorem En37 : Enters Try.prog 37 := ⟨_, Try.func37, by decide, rfl⟩

/-- ferryman/portset.At -/
noncomputable def T39 : List (FuncId × FSpec) := [(37, S37), (62, V62), (63, V63)]
theorem T39_ok : TabOK Try.prog T39 := TabOK.cons En37 S37_ok (TabOK.cons En62 V62_ok (TabOK.cons En63 V63_ok (TabOK.nil _)))
noncomputable def C39 : Ctx := (ctx E T39 [] [(0, [1, 2]), (1, [1, 2, 6, 7]), (2, [1, 2, 6, 7, 15]), (3, [4, 5]), (4, [1, 2, 23]), (5, [4, 5]), (6, [1, 2, 8]), (7, [1, 2, 8, 30]), (8, [1, 2, 8]), (9, [4, 5])] [] 55 70)
theorem C39_ok : CtxOK Try.prog C39 := ctx_ok E_ok E_flds mixed T39_ok
noncomputable def B39 : FSpec := inlineK C39 Try.f39
noncomputable def S39 : FSpec := fun args H k => match args, H with
  | [.agg [.int .i64 a, .int .i64 b, .int .u16 p], .int .i64 i], [] => aIf (psetB a b p && i64B i) (k (.ret (.tup [.int .u16 (atN a b p i), .int .i64 (atE a b p i)])) []) none
  | _, _ => none
theorem B39_ok : SpecOK Try.prog 39 B39 := inlineK_ok C39_ok Try.func39 (fun _ _ => LoopsOK.none _)
theorem N39 (a b p i : Int) (k : KE) : B39 [.agg [.int .i64 a, .int .i64 b, .int .u16 p], .int .i64 i] [] k =
  aIf (Pl.psetB a b p) (aIf (Pl.right a b p) (aIf (decide (i < 0)) (k (AEnd.ret (AV.tup [AV.int IntKind.u16 0, AV.int IntKind.i64 5])) []) (aIf (decide (i ≥ Pl.count a b)) (k (AEnd.ret (AV.tup [AV.int IntKind.u16 0, AV.int IntKind.i64 5])) []) (aIf (Pl.psetB a b p && Pl.right a b p) (aIf (Pl.mI a b == 0) none (aIf (decide (a > 0)) (aIf (decide (IntKind.u64.wrap (IntKind.i64.wrap (16 - a)) < 0)) none (aIf (Pl.psetB a b p && Pl.right a b p) (aIf (decide (IntKind.u64.wrap (16 - a - b) < 0)) none (aIf (Pl.psetB a b p && Pl.right a b p) (aIf (Pl.mI a b == 0) none (k (AEnd.ret (AV.tup [AV.int IntKind.u16 (IntKind.u16.wrap (IntKind.u32.wrap (↑(BitVec.ofInt 32 (IntKind.u32.wrap (↑(BitVec.ofInt 32 (IntKind.u32.wrap (IntKind.u32.wrap (IntKind.i64.wrap (IntKind.i64.wrap (i.tdiv (Pl.mI a b)) + 1)) * 2 ^ min (IntKind.u64.wrap (IntKind.i64.wrap (16 - a))).toNat 32)) ||| BitVec.ofInt 32 (IntKind.u32.wrap (IntKind.u32.wrap p * 2 ^ min (IntKind.u64.wrap (16 - a - b)).toNat 32))).toNat : Int)) ||| BitVec.ofInt 32 (IntKind.u32.wrap (i.tmod (Pl.mI a b)))).toNat : Int))), AV.int IntKind.i64 0])) [])) none)) none)) (aIf (decide (IntKind.u64.wrap (IntKind.i64.wrap (16 - a)) < 0)) none (aIf (Pl.psetB a b p && Pl.right a b p) (aIf (decide (IntKind.u64.wrap (16 - a - b) < 0)) none (aIf (Pl.psetB a b p && Pl.right a b p) (aIf (Pl.mI a b == 0) none (k (AEnd.ret (AV.tup [AV.int IntKind.u16 (IntKind.u16.wrap (IntKind.u32.wrap (↑(BitVec.ofInt 32 (IntKind.u32.wrap (↑(BitVec.ofInt 32 (IntKind.u32.wrap (IntKind.u32.wrap (IntKind.i64.wrap (i.tdiv (Pl.mI a b))) * 2 ^ min (IntKind.u64.wrap (IntKind.i64.wrap (16 - a))).toNat 32)) ||| BitVec.ofInt 32 (IntKind.u32.wrap (IntKind.u32.wrap p * 2 ^ min (IntKind.u64.wrap (16 - a - b)).toNat 32))).toNat : Int)) ||| BitVec.ofInt 32 (IntKind.u32.wrap (i.tmod (Pl.mI a b)))).toNat : Int))), AV.int IntKind.i64 0])) [])) none)) none)))) none))) (k (AEnd.ret (AV.tup [AV.int IntKind.u16 0, AV.int IntKind.i64 90])) [])) none := by kernel_rfl
theorem S39_ok : SpecOK Try.prog 39 S39 := by
  refine B39_ok.turn fun args H => ?_
  unfold S39
  split
  · rename_i a b p i
    rcases Bool.eq_false_or_eq_true (psetB a b p && i64B i) with hp | hp
    · refine .inr fun k => ?_
      rw [aIf_pos hp, N39]
      obtain ⟨hp, hi⟩ := by simpa only [Bool.and_eq_true] using hp
      have hi := i64B_iff.1 hi
      unfold atN atE
      rw [aIf_pos hp]
      cases hr : right a b p with
      | false => simp only [Bool.false_and, cond_false]; rfl
      | true =>
        obtain ⟨a, b, p, rfl, rfl, rfl, ha, hb, hpb⟩ := right_nats hp hr
        have hpr : (psetB (a : Int) (b : Int) (p : Int) && true) = true := by rw [Bool.and_true]; exact hp
        simp only [Bool.true_and, cond_true]
        refine Eq.trans ?_ (aIf_pos rfl).symm
        by_cases h0 : i < 0
        · rw [inN_neg h0, aIf_pos (decide_eq_true h0)]; simp only [cond_false]
        · obtain ⟨i, rfl⟩ := Int.eq_ofNat_of_zero_le (Int.not_lt.1 h0)
          rw [inN_nat ha hb, aIf_neg (decide_eq_false h0), count_nat ha hb]
          by_cases h1 : i < nP a b
          · have hg := group_lt ha hb h1
            have h15 := two_le ha hb
            have hpos := mP_pos a b
            have hle := mP_le16 a b
            have hm : i % mP a b < mP a b := Nat.mod_lt _ hpos
            have hd0 : (0 : Int) ≤ ((i / mP a b : Nat) : Int) := Int.natCast_nonneg _
            have hm0 : (0 : Int) ≤ ((i % mP a b : Nat) : Int) := Int.natCast_nonneg _
            have hq : i / mP a b < 65536 := by omega
            have hw : decide (IntKind.u64.wrap (IntKind.i64.wrap (16 - (a : Int))) < 0) = false := by rw [w16a ha hb]; exact decide_eq_false (by omega)
            have hw2 : decide (IntKind.u64.wrap (16 - (a : Int) - (b : Int)) < 0) = false := by rw [w16b ha hb]; exact decide_eq_false (by omega)
            rw [aIf_neg (decide_eq_false (show ¬ (i : Int) ≥ (nP a b : Int) by omega)), decide_eq_true h1]
            simp only [cond_true, Int.toNat_natCast]
            rw [hpr, aIf_pos rfl, aIf_neg (mI_ne ha hb)]
            by_cases h2 : a = 0
            · subst h2
              rw [aIf_neg (by rfl), aIf_neg hw, aIf_pos rfl, aIf_neg hw2, aIf_pos rfl, aIf_neg (mI_ne ha hb), mI_nat, tdiv_nat, tmod_nat,
                from_val (g := gZ 0 + i / mP 0 b) ha hb hpb hg (by rw [i64_of (by omega) (by omega), u32_of (by omega) (by omega)]; simp [gZ]), u32_of (n := ((i % mP 0 b : Nat) : Int)) (by omega) (by omega), port_val ha hb hpb hg hm]
              rfl
            · have hz : gZ a = 1 := if_neg h2
              rw [aIf_pos (decide_eq_true (show (a : Int) > 0 by omega)), aIf_neg hw, aIf_pos rfl, aIf_neg hw2, aIf_pos rfl, aIf_neg (mI_ne ha hb), mI_nat, tdiv_nat, tmod_nat,
                from_val (g := gZ a + i / mP a b) ha hb hpb hg (by rw [hz, i64_of (n := ((i / mP a b : Nat) : Int)) (by omega) (by omega), i64_of (by omega) (by omega), u32_of (by omega) (by omega)]; omega), u32_of (n := ((i % mP a b : Nat) : Int)) (by omega) (by omega), port_val ha hb hpb hg hm]
              rfl
          · rw [aIf_pos (decide_eq_true (show (i : Int) ≥ (nP a b : Int) by omega)), decide_eq_false h1]; simp only [cond_false]
    · exact .inl fun k => by rw [aIf_neg hp]
  · exact .inl fun k => rfl
theorem En39 : Enters Try.prog 39 := ⟨_, Try.func39, by decide, rfl⟩

/-- ferryman/ferrymanlaw09.alive -/
noncomputable def T35 : List (FuncId × FSpec) := [(36, S36), (37, S37), (39, S39)]
theorem T35_ok : TabOK Try.prog T35 := TabOK.cons En36 S36_ok (TabOK.cons En37 S37_ok (TabOK.cons En39 S39_ok (TabOK.nil _)))
noncomputable def C35 : Ctx := (ctx E T35 [] [(0, []), (1, [1]), (2, [1, 2, 3]), (3, [2, 3, 4, 5]), (4, [2, 3, 4, 5, 6, 7, 8]), (5, [0])] [] 50 70)
theorem C35_ok : CtxOK Try.prog C35 := ctx_ok E_ok E_flds mixed T35_ok
noncomputable def B35 : FSpec := inlineK C35 Try.f35
noncomputable def S35 : FSpec := constK (AV.bool true)
theorem B35_ok : SpecOK Try.prog 35 B35 := inlineK_ok C35_ok Try.func35 (fun _ _ => LoopsOK.none _)
theorem B35_is (k : KE) : B35 [] [] k = k (.ret (AV.bool true)) [] := by kernel_rfl
theorem S35_ok : SpecOK Try.prog 35 S35 := constK_ok B35_ok B35_is
theorem En35 : Enters Try.prog 35 := ⟨_, Try.func35, by decide, rfl⟩

/-- ferryman/portset.Index -/
noncomputable def T41 : List (FuncId × FSpec) := [(34, S34), (63, V63)]
theorem T41_ok : TabOK Try.prog T41 := TabOK.cons En34 S34_ok (TabOK.cons En63 V63_ok (TabOK.nil _))
noncomputable def C41 : Ctx := (ctx E T41 [] [(0, [1, 2]), (1, [1, 2, 6, 7]), (2, [1, 2, 6, 7, 16]), (3, [4, 5]), (4, [1, 2, 19]), (5, [4, 5]), (6, [1, 2, 8]), (7, [1, 2, 8, 28]), (8, [1, 2, 8]), (9, [4, 5])] [] 42 70)
theorem C41_ok : CtxOK Try.prog C41 := ctx_ok E_ok E_flds mixed T41_ok
noncomputable def B41 : FSpec := inlineK C41 Try.f41
noncomputable def S41 : FSpec := fun args H k => match args, H with
  | [.agg [.int .i64 a, .int .i64 b, .int .u16 p], .int .u16 x], [] => aIf (psetB a b p && psetB a b x) (k (.ret (.tup [.int .i64 (idxN a b p x), .int .i64 (idxE a b p x)])) []) none
  | _, _ => none
theorem B41_ok : SpecOK Try.prog 41 B41 := inlineK_ok C41_ok Try.func41 (fun _ _ => LoopsOK.none _)
theorem N41 (a b p x : Int) (k : KE) : B41 [.agg [.int .i64 a, .int .i64 b, .int .u16 p], .int .u16 x] [] k =
  aIf (Pl.psetB a b p && Pl.psetB a b x) (aIf (Pl.right a b p) (aIf (!(Pl.mine a x && Pl.psid a b x == p)) (k (AEnd.ret (AV.tup [AV.int IntKind.i64 0, AV.int IntKind.i64 91])) []) (aIf (decide (IntKind.i64.wrap (16 - a) < 0)) none (aIf (decide (a > 0)) (aIf (Pl.psetB a b p && Pl.right a b p) (aIf (Pl.psetB a b p && Pl.right a b p) (k (AEnd.ret (AV.tup [AV.int IntKind.i64 (IntKind.i64.wrap (IntKind.i64.wrap (IntKind.i64.wrap ((IntKind.i64.wrap x).fdiv (2 ^ min (IntKind.i64.wrap (16 - a)).toNat 64) - 1) * Pl.mI a b) + IntKind.i64.wrap (↑(BitVec.ofInt 64 (IntKind.i64.wrap x) &&& BitVec.ofInt 64 (IntKind.i64.wrap (Pl.mI a b - 1))).toNat : Int))), AV.int IntKind.i64 0])) []) none) none) (aIf (Pl.psetB a b p && Pl.right a b p) (aIf (Pl.psetB a b p && Pl.right a b p) (k (AEnd.ret (AV.tup [AV.int IntKind.i64 (IntKind.i64.wrap (IntKind.i64.wrap ((IntKind.i64.wrap x).fdiv (2 ^ min (IntKind.i64.wrap (16 - a)).toNat 64) * Pl.mI a b) + IntKind.i64.wrap (↑(BitVec.ofInt 64 (IntKind.i64.wrap x) &&& BitVec.ofInt 64 (IntKind.i64.wrap (Pl.mI a b - 1))).toNat : Int))), AV.int IntKind.i64 0])) []) none) none)))) (k (AEnd.ret (AV.tup [AV.int IntKind.i64 0, AV.int IntKind.i64 90])) [])) none := by kernel_rfl
theorem S41_ok : SpecOK Try.prog 41 S41 := by
  refine B41_ok.turn fun args H => ?_
  unfold S41
  split
  · rename_i a b p x
    rcases Bool.eq_false_or_eq_true (psetB a b p && psetB a b x) with hp | hp
    · refine .inr fun k => ?_
      rw [aIf_pos hp, N41]
      obtain ⟨hp1, hp2⟩ := by simpa only [Bool.and_eq_true] using hp
      rw [aIf_pos hp]
      unfold idxN idxE
      cases hr : right a b p with
      | false =>
        rw [show hasB a b p x = false by unfold hasB; rw [hr]; rfl]
        rfl
      | true =>
        obtain ⟨a, b, p, rfl, rfl, rfl, ha, hb, hpb⟩ := right_nats hp1 hr
        obtain ⟨_, _, _, _, hx0, hx1⟩ := psetB_iff.1 hp2
        obtain ⟨x, rfl⟩ := Int.eq_ofNat_of_zero_le hx0
        have hx : x < 65536 := by omega
        have hh := has_nat (x := x) hr
        have hpr : (psetB (a : Int) (b : Int) (p : Int) && true) = true := by rw [Bool.and_true]; exact hp1
        have hhB : (mine (a : Int) (x : Int) && psid (a : Int) (b : Int) (x : Int) == (p : Int)) = hasB a b p x := by unfold hasB; rw [hr, Bool.true_and]
        rw [cond_true, hhB, hh]
        refine Eq.trans ?_ (aIf_pos rfl).symm
        cases hm : memP a b p x with
        | false => rfl
        | true =>
          have hge := (memP_iff.1 hm).1
          have hq := quo_le ha hb hx
          have hd0 : (0 : Int) ≤ ((x / AP a : Nat) : Int) := Int.natCast_nonneg _
          have h15 := two_le ha hb
          simp only [cond_true, Int.toNat_natCast]
          refine Eq.trans ?_ (aIf_neg (by rfl)).symm
          rw [hpr]
          by_cases h2 : a = 0
          · subst h2
            rw [aIf_neg (by rw [i16a ha hb]; exact decide_eq_false (by omega)), aIf_neg (by rfl), aIf_pos rfl, aIf_pos rfl, idx_val (q := x / AP 0) ha hb (quo_nat ha hb hx) (by omega) hx]
            unfold idxP
            rw [show gZ 0 = 0 from rfl, Nat.sub_zero]
          · have hz : gZ a = 1 := if_neg h2
            rw [hz] at hge
            rw [aIf_neg (by rw [i16a ha hb]; exact decide_eq_false (by omega)), aIf_pos (decide_eq_true (show (a : Int) > 0 by omega)), aIf_pos rfl, aIf_pos rfl, idx_val (q := x / AP a - 1) ha hb (by rw [quo_nat ha hb hx, i64_of (by omega) (by omega)]; omega) (by omega) hx]
            unfold idxP
            rw [hz]
    · exact .inl fun k => by rw [aIf_neg hp]
  · exact .inl fun k => rfl
theorem En41 : Enters Try.prog 41 := ⟨_, Try.func41, by decide, rfl⟩

/-- ferryman/portset.runs$1 -/
noncomputable def T68 : List (FuncId × FSpec) := [(62, V62)]
theorem T68_ok : TabOK Try.prog T68 := TabOK.cons En62 V62_ok (TabOK.nil _)
noncomputable def C68 : Ctx := (ctx E T68 [] [(0, [0, 1, 7, 8]), (1, [0, 1, 7, 8, 9]), (2, [0, 1, 3, 7, 8]), (3, [0, 1, 3, 7, 8, 17]), (4, [0, 1, 4, 7, 8]), (5, [0, 1, 7, 8, 46]), (6, [0, 1, 7, 8]), (1000001, [0, 1, 7, 8])] [] 48 70)
theorem C68_ok : CtxOK Try.prog C68 := ctx_ok E_ok E_flds mixed T68_ok
noncomputable def S68 : FSpec := inlineK C68 Try.f68
theorem S68_ok : SpecOK Try.prog 68 S68 := inlineK_ok C68_ok Try.func68 (fun _ _ => LoopsOK.none _)
theorem En68 : Enters Try.prog 68 := ⟨_, Try.func68, by decide, rfl⟩

/-- ferryman/portset.runs -/
noncomputable def T67 : List (FuncId × FSpec) := [(68, S68)]
theorem T67_ok : TabOK Try.prog T67 := TabOK.cons En68 S68_ok (TabOK.nil _)
noncomputable def C67 : Ctx := (ctx E T67 [] [(0, [1]), (1, [2])] [] 4 70)
theorem C67_ok : CtxOK Try.prog C67 := ctx_ok E_ok E_flds mixed T67_ok
noncomputable def S67 : FSpec := inlineK C67 Try.f67
theorem S67_ok : SpecOK Try.prog 67 S67 := inlineK_ok C67_ok Try.func67 (fun _ _ => LoopsOK.none _)
theorem En67 : Enters Try.prog 67 := ⟨_, Try.func67, by decide, rfl⟩

/-- ferryman/portset.Next -/
noncomputable def T43 : List (FuncId × FSpec) := [(39, S39), (47, S47), (67, S67)]
theorem T43_ok : TabOK Try.prog T43 := TabOK.cons En39 S39_ok (TabOK.cons En47 S47_ok (TabOK.cons En67 S67_ok (TabOK.nil _)))
noncomputable def C43a : Ctx := ctx E T43 [] [(0, [2, 3, 4, 5, 15]), (1, [2, 3, 4, 5, 6, 15]), (2, [2, 3, 4, 5, 6, 11, 15]), (3, [4, 5]), (4, [2, 3, 4, 5, 14, 15]), (5, [3, 4, 5, 7]), (6, [3, 4, 5, 7, 19]), (7, [4, 5]), (8, [4, 5])] [] 29 70
theorem C43a_ok : CtxOK Try.prog C43a := ctx_ok E_ok E_flds mixed T43_ok
noncomputable def L68y43_1 : ATs → AH → KC → Res := fun ts H k => match ts, H with
  | [(0, .yld 4), (1, .fp [.int .i64 a, .int .i64 b, .int .u16 p]), (7, .int .i64 n), (8, .int .i64 i)], [.cells 0 [.int .i64 a1, .int .i64 b1, .int .u16 p1], .cells 0 [.int .u16 x], .cells 0 [.int .u16 r], .cells 0 [.int .i64 e], .loop .ready none 29 [(2, .ptr 0 0 0), (3, .ptr 1 0 0), (4, .ptr 2 0 0), (5, .ptr 3 0 0), (14, .fn (.func 68) [] [.fp [.int .i64 a2, .int .i64 b2, .int .u16 p2]]), (15, .junk)] 430006] => aIf (i == 0 && n == (2 : Int) ^ a.toNat && psetB a b p && right a b p && psetB a b x) (aIf (nxB a b p x) (k .ret [(0, .yld 4), (1, .fp [.int .i64 a, .int .i64 b, .int .u16 p]), (7, .int .i64 n), (8, .int .i64 (nxG a b p x)), (46, .bool true)] [.cells 0 [.int .i64 a1, .int .i64 b1, .int .u16 p1], .cells 0 [.int .u16 x], .cells 0 [.int .u16 (nxtN a b p x)], .cells 0 [.int .i64 0], .loop .done (some .ret) 29 [(2, .ptr 0 0 0), (3, .ptr 1 0 0), (4, .ptr 2 0 0), (5, .ptr 3 0 0), (14, .fn (.func 68) [] [.fp [.int .i64 a2, .int .i64 b2, .int .u16 p2]]), (15, .junk)] 430006]) (k (.exit 0) [(0, .yld 4), (1, .fp [.int .i64 a, .int .i64 b, .int .u16 p]), (7, .int .i64 n), (8, .int .i64 n), (9, .bool false)] [.cells 0 [.int .i64 a1, .int .i64 b1, .int .u16 p1], .cells 0 [.int .u16 x], .cells 0 [.int .u16 r], .cells 0 [.int .i64 e], .loop .ready none 29 [(2, .ptr 0 0 0), (3, .ptr 1 0 0), (4, .ptr 2 0 0), (5, .ptr 3 0 0), (14, .fn (.func 68) [] [.fp [.int .i64 a2, .int .i64 b2, .int .u16 p2]]), (15, .junk)] 430006])) none
  | _, _ => none
noncomputable def C68y43 : Ctx := (ctx E T68 [(1, L68y43_1)] [(0, [0, 1, 7, 8]), (1, [0, 1, 7, 8, 9]), (2, [0, 1, 3, 7, 8]), (3, [0, 1, 3, 7, 8, 17]), (4, [0, 1, 4, 7, 8]), (5, [0, 1, 7, 8, 46]), (6, [0, 1, 7, 8]), (1000001, [0, 1, 7, 8])] [] 48 70).yields C43a
noncomputable def S68y43 : FSpec := liveK C68y43 Try.f68
theorem C68y43_ok : CtxOK Try.prog C68y43 := Ctx.yields_ok (ctx_ok E_ok E_flds mixed T68_ok) C43a_ok (fun _ => rfl) rfl
theorem C68y43_l0 : C68y43.loop (loopId (loopB Try.f68 0)) = some L68y43_1 := by kernel_rfl
theorem L68y43_1_in : LoopsOK C68y43 (loopB Try.f68 0) := LoopsOK.within 0 (by kernel_rfl) (fun j hj S hS => by
  omega)
theorem M68y43_1a (a b p n i a1 b1 p1 x r e a2 b2 p2 : Int) (k : KC) : headedK C68y43 (loopB Try.f68 0) [(0, .yld 4), (1, .fp [.int .i64 a, .int .i64 b, .int .u16 p]), (7, .int .i64 n), (8, .int .i64 i)] [.cells 0 [.int .i64 a1, .int .i64 b1, .int .u16 p1], .cells 0 [.int .u16 x], .cells 0 [.int .u16 r], .cells 0 [.int .i64 e], .loop .ready none 29 [(2, .ptr 0 0 0), (3, .ptr 1 0 0), (4, .ptr 2 0 0), (5, .ptr 3 0 0), (14, .fn (.func 68) [] [.fp [.int .i64 a2, .int .i64 b2, .int .u16 p2]]), (15, .junk)] 430006] k =
  aIf (decide (i < n)) (aIf (i == 0) (aIf (decide (a > 0)) (k AExit.normal [(0, AV.yld 4), (1, AV.fp [AV.int IntKind.i64 a, AV.int IntKind.i64 b, AV.int IntKind.u16 p]), (7, AV.int IntKind.i64 n), (8, AV.int IntKind.i64 (IntKind.i64.wrap (i + 1)))] [AO.cells 0 [AV.int IntKind.i64 a1, AV.int IntKind.i64 b1, AV.int IntKind.u16 p1], AO.cells 0 [AV.int IntKind.u16 x], AO.cells 0 [AV.int IntKind.u16 r], AO.cells 0 [AV.int IntKind.i64 e], AO.loop LoopState.ready none 29 [(2, AV.ptr 0 0 0), (3, AV.ptr 1 0 0), (4, AV.ptr 2 0 0), (5, AV.ptr 3 0 0), (14, AV.fn (Fn.func 68) [] [AV.fp [AV.int IntKind.i64 a2, AV.int IntKind.i64 b2, AV.int IntKind.u16 p2]]), (15, AV.junk)] 430006]) (aIf (decide (IntKind.u64.wrap (IntKind.i64.wrap (16 - a)) < 0)) none (aIf (Pl.psetB a b p && Pl.right a b p) (aIf (decide (IntKind.u64.wrap (16 - a - b) < 0)) none (aIf (Pl.psetB a b p && Pl.right a b p) (aIf (decide (IntKind.u64.wrap (16 - a - b) < 0)) none (aIf (decide (IntKind.u16.wrap (IntKind.u32.wrap (↑(BitVec.ofInt 32 (IntKind.u32.wrap (↑(BitVec.ofInt 32 (IntKind.u32.wrap (IntKind.u32.wrap i * 2 ^ min (IntKind.u64.wrap (IntKind.i64.wrap (16 - a))).toNat 32)) ||| BitVec.ofInt 32 (IntKind.u32.wrap (IntKind.u32.wrap p * 2 ^ min (IntKind.u64.wrap (16 - a - b)).toNat 32))).toNat : Int)) ||| BitVec.ofInt 32 (IntKind.u32.wrap (IntKind.u32.wrap (1 * 2 ^ min (IntKind.u64.wrap (16 - a - b)).toNat 32) - 1))).toNat : Int)) > x)) (k AExit.ret [(0, AV.yld 4), (1, AV.fp [AV.int IntKind.i64 a, AV.int IntKind.i64 b, AV.int IntKind.u16 p]), (7, AV.int IntKind.i64 n), (8, AV.int IntKind.i64 i), (46, AV.bool true)] [AO.cells 0 [AV.int IntKind.i64 a1, AV.int IntKind.i64 b1, AV.int IntKind.u16 p1], AO.cells 0 [AV.int IntKind.u16 x], AO.cells 0 [AV.int IntKind.u16 (if IntKind.u16.wrap (x + 1) > IntKind.u16.wrap (IntKind.u32.wrap (↑(BitVec.ofInt 32 (IntKind.u32.wrap (IntKind.u32.wrap i * 2 ^ min (IntKind.u64.wrap (IntKind.i64.wrap (16 - a))).toNat 32)) ||| BitVec.ofInt 32 (IntKind.u32.wrap (IntKind.u32.wrap p * 2 ^ min (IntKind.u64.wrap (16 - a - b)).toNat 32))).toNat : Int)) then IntKind.u16.wrap (x + 1) else IntKind.u16.wrap (IntKind.u32.wrap (↑(BitVec.ofInt 32 (IntKind.u32.wrap (IntKind.u32.wrap i * 2 ^ min (IntKind.u64.wrap (IntKind.i64.wrap (16 - a))).toNat 32)) ||| BitVec.ofInt 32 (IntKind.u32.wrap (IntKind.u32.wrap p * 2 ^ min (IntKind.u64.wrap (16 - a - b)).toNat 32))).toNat : Int)))], AO.cells 0 [AV.int IntKind.i64 0], AO.loop LoopState.done (some Code.ret) 29 [(2, AV.ptr 0 0 0), (3, AV.ptr 1 0 0), (4, AV.ptr 2 0 0), (5, AV.ptr 3 0 0), (14, AV.fn (Fn.func 68) [] [AV.fp [AV.int IntKind.i64 a2, AV.int IntKind.i64 b2, AV.int IntKind.u16 p2]]), (15, AV.junk)] 430006]) (k AExit.normal [(0, AV.yld 4), (1, AV.fp [AV.int IntKind.i64 a, AV.int IntKind.i64 b, AV.int IntKind.u16 p]), (7, AV.int IntKind.i64 n), (8, AV.int IntKind.i64 (IntKind.i64.wrap (i + 1)))] [AO.cells 0 [AV.int IntKind.i64 a1, AV.int IntKind.i64 b1, AV.int IntKind.u16 p1], AO.cells 0 [AV.int IntKind.u16 x], AO.cells 0 [AV.int IntKind.u16 r], AO.cells 0 [AV.int IntKind.i64 e], AO.loop LoopState.ready none 29 [(2, AV.ptr 0 0 0), (3, AV.ptr 1 0 0), (4, AV.ptr 2 0 0), (5, AV.ptr 3 0 0), (14, AV.fn (Fn.func 68) [] [AV.fp [AV.int IntKind.i64 a2, AV.int IntKind.i64 b2, AV.int IntKind.u16 p2]]), (15, AV.junk)] 430006]))) none)) none))) (aIf (decide (IntKind.u64.wrap (IntKind.i64.wrap (16 - a)) < 0)) none (aIf (Pl.psetB a b p && Pl.right a b p) (aIf (decide (IntKind.u64.wrap (16 - a - b) < 0)) none (aIf (Pl.psetB a b p && Pl.right a b p) (aIf (decide (IntKind.u64.wrap (16 - a - b) < 0)) none (aIf (decide (IntKind.u16.wrap (IntKind.u32.wrap (↑(BitVec.ofInt 32 (IntKind.u32.wrap (↑(BitVec.ofInt 32 (IntKind.u32.wrap (IntKind.u32.wrap i * 2 ^ min (IntKind.u64.wrap (IntKind.i64.wrap (16 - a))).toNat 32)) ||| BitVec.ofInt 32 (IntKind.u32.wrap (IntKind.u32.wrap p * 2 ^ min (IntKind.u64.wrap (16 - a - b)).toNat 32))).toNat : Int)) ||| BitVec.ofInt 32 (IntKind.u32.wrap (IntKind.u32.wrap (1 * 2 ^ min (IntKind.u64.wrap (16 - a - b)).toNat 32) - 1))).toNat : Int)) > x)) (k AExit.ret [(0, AV.yld 4), (1, AV.fp [AV.int IntKind.i64 a, AV.int IntKind.i64 b, AV.int IntKind.u16 p]), (7, AV.int IntKind.i64 n), (8, AV.int IntKind.i64 i), (46, AV.bool true)] [AO.cells 0 [AV.int IntKind.i64 a1, AV.int IntKind.i64 b1, AV.int IntKind.u16 p1], AO.cells 0 [AV.int IntKind.u16 x], AO.cells 0 [AV.int IntKind.u16 (if IntKind.u16.wrap (x + 1) > IntKind.u16.wrap (IntKind.u32.wrap (↑(BitVec.ofInt 32 (IntKind.u32.wrap (IntKind.u32.wrap i * 2 ^ min (IntKind.u64.wrap (IntKind.i64.wrap (16 - a))).toNat 32)) ||| BitVec.ofInt 32 (IntKind.u32.wrap (IntKind.u32.wrap p * 2 ^ min (IntKind.u64.wrap (16 - a - b)).toNat 32))).toNat : Int)) then IntKind.u16.wrap (x + 1) else IntKind.u16.wrap (IntKind.u32.wrap (↑(BitVec.ofInt 32 (IntKind.u32.wrap (IntKind.u32.wrap i * 2 ^ min (IntKind.u64.wrap (IntKind.i64.wrap (16 - a))).toNat 32)) ||| BitVec.ofInt 32 (IntKind.u32.wrap (IntKind.u32.wrap p * 2 ^ min (IntKind.u64.wrap (16 - a - b)).toNat 32))).toNat : Int)))], AO.cells 0 [AV.int IntKind.i64 0], AO.loop LoopState.done (some Code.ret) 29 [(2, AV.ptr 0 0 0), (3, AV.ptr 1 0 0), (4, AV.ptr 2 0 0), (5, AV.ptr 3 0 0), (14, AV.fn (Fn.func 68) [] [AV.fp [AV.int IntKind.i64 a2, AV.int IntKind.i64 b2, AV.int IntKind.u16 p2]]), (15, AV.junk)] 430006]) (k AExit.normal [(0, AV.yld 4), (1, AV.fp [AV.int IntKind.i64 a, AV.int IntKind.i64 b, AV.int IntKind.u16 p]), (7, AV.int IntKind.i64 n), (8, AV.int IntKind.i64 (IntKind.i64.wrap (i + 1)))] [AO.cells 0 [AV.int IntKind.i64 a1, AV.int IntKind.i64 b1, AV.int IntKind.u16 p1], AO.cells 0 [AV.int IntKind.u16 x], AO.cells 0 [AV.int IntKind.u16 r], AO.cells 0 [AV.int IntKind.i64 e], AO.loop LoopState.ready none 29 [(2, AV.ptr 0 0 0), (3, AV.ptr 1 0 0), (4, AV.ptr 2 0 0), (5, AV.ptr 3 0 0), (14, AV.fn (Fn.func 68) [] [AV.fp [AV.int IntKind.i64 a2, AV.int IntKind.i64 b2, AV.int IntKind.u16 p2]]), (15, AV.junk)] 430006]))) none)) none))) (k (AExit.exit 0) [(0, AV.yld 4), (1, AV.fp [AV.int IntKind.i64 a, AV.int IntKind.i64 b, AV.int IntKind.u16 p]), (7, AV.int IntKind.i64 n), (8, AV.int IntKind.i64 i), (9, AV.bool (decide (i < n)))] [AO.cells 0 [AV.int IntKind.i64 a1, AV.int IntKind.i64 b1, AV.int IntKind.u16 p1], AO.cells 0 [AV.int IntKind.u16 x], AO.cells 0 [AV.int IntKind.u16 r], AO.cells 0 [AV.int IntKind.i64 e], AO.loop LoopState.ready none 29 [(2, AV.ptr 0 0 0), (3, AV.ptr 1 0 0), (4, AV.ptr 2 0 0), (5, AV.ptr 3 0 0), (14, AV.fn (Fn.func 68) [] [AV.fp [AV.int IntKind.i64 a2, AV.int IntKind.i64 b2, AV.int IntKind.u16 p2]]), (15, AV.junk)] 430006]) := by kernel_rfl
theorem L68y43_1_ok : LoopSum C68y43 (loopB Try.f68 0) L68y43_1 := LoopSum.of C68y43_ok L68y43_1_in (fun ts H => by
  unfold L68y43_1
  split
  · rename_i a b p n i a1 b1 p1 x r e a2 b2 p2
    rcases Bool.eq_false_or_eq_true (i == 0 && n == (2 : Int) ^ a.toNat && psetB a b p && right a b p && psetB a b x) with hp | hp
    · refine .inr ?_
      simp only [aIf_pos hp]
      simp only [Bool.and_eq_true, beq_iff_eq] at hp
      obtain ⟨⟨⟨⟨rfl, rfl⟩, hp⟩, hr⟩, hpx⟩ := hp
      obtain ⟨a, b, p, rfl, rfl, rfl, ha, hb, hpb⟩ := right_nats hp hr
      obtain ⟨_, _, _, _, hx0, hx1⟩ := psetB_iff.1 hpx
      obtain ⟨x, rfl⟩ := Int.eq_ofNat_of_zero_le hx0
      have hx : x < 65536 := by omega
      have h15 := two_le ha hb
      have hpos := mP_pos a b
      have hpr : (psetB (a : Int) (b : Int) (p : Int) && right (a : Int) (b : Int) (p : Int)) = true := by rw [hp, hr]; rfl
      have hw : decide (IntKind.u64.wrap (IntKind.i64.wrap (16 - (a : Int))) < 0) = false := by rw [w16a ha hb]; exact decide_eq_false (by omega)
      have hw2 : decide (IntKind.u64.wrap (16 - (a : Int) - (b : Int)) < 0) = false := by rw [w16b ha hb]; exact decide_eq_false (by omega)
      rw [Int.toNat_natCast, cast_pow]
      have key : ∀ j : Nat, j < 2 ^ a → ∀ k, headedK C68y43 (loopB Try.f68 0) [(0, .yld 4), (1, .fp [.int .i64 (a : Int), .int .i64 (b : Int), .int .u16 (p : Int)]), (7, .int .i64 ((2 ^ a : Nat) : Int)), (8, .int .i64 (j : Int))] [.cells 0 [.int .i64 a1, .int .i64 b1, .int .u16 p1], .cells 0 [.int .u16 (x : Int)], .cells 0 [.int .u16 r], .cells 0 [.int .i64 e], .loop .ready none 29 [(2, .ptr 0 0 0), (3, .ptr 1 0 0), (4, .ptr 2 0 0), (5, .ptr 3 0 0), (14, .fn (.func 68) [] [.fp [.int .i64 a2, .int .i64 b2, .int .u16 p2]]), (15, .junk)] 430006] k = aIf (nxC a b p x j) (k .ret [(0, .yld 4), (1, .fp [.int .i64 (a : Int), .int .i64 (b : Int), .int .u16 (p : Int)]), (7, .int .i64 ((2 ^ a : Nat) : Int)), (8, .int .i64 (j : Int)), (46, .bool true)] [.cells 0 [.int .i64 a1, .int .i64 b1, .int .u16 p1], .cells 0 [.int .u16 (x : Int)], .cells 0 [.int .u16 (max (frm a b p j) (x + 1) : Nat)], .cells 0 [.int .i64 0], .loop .done (some .ret) 29 [(2, .ptr 0 0 0), (3, .ptr 1 0 0), (4, .ptr 2 0 0), (5, .ptr 3 0 0), (14, .fn (.func 68) [] [.fp [.int .i64 a2, .int .i64 b2, .int .u16 p2]]), (15, .junk)] 430006]) (k .normal [(0, .yld 4), (1, .fp [.int .i64 (a : Int), .int .i64 (b : Int), .int .u16 (p : Int)]), (7, .int .i64 ((2 ^ a : Nat) : Int)), (8, .int .i64 ((j + 1 : Nat) : Int))] [.cells 0 [.int .i64 a1, .int .i64 b1, .int .u16 p1], .cells 0 [.int .u16 (x : Int)], .cells 0 [.int .u16 r], .cells 0 [.int .i64 e], .loop .ready none 29 [(2, .ptr 0 0 0), (3, .ptr 1 0 0), (4, .ptr 2 0 0), (5, .ptr 3 0 0), (14, .fn (.func 68) [] [.fp [.int .i64 a2, .int .i64 b2, .int .u16 p2]]), (15, .junk)] 430006]) := by
        intro j hj k
        have hlt : decide ((j : Int) < ((2 ^ a : Nat) : Int)) = true := decide_eq_true (by omega)
        have hn1 : IntKind.i64.wrap ((j : Int) + 1) = ((j + 1 : Nat) : Int) := by rw [i64_of (by omega) (by omega)]; omega
        have hfv := from_val (g := j) (G := (j : Int)) ha hb hpb hj (u32_of (by omega) (by omega))
        have htv := to_val ha hb hpb hj
        have hfr := frm16 ha hb hpb hj
        have hfl := frm_le ha hb hpb hj
        rw [M68y43_1a]
        simp only [hlt, hpr, hw, hw2, hfv, htv, hfr, hn1, aIf_true, aIf_false]
        have hA : ∀ z : Nat, decide (((z : Nat) : Int) > (x : Int)) = decide (x < z) := fun z => decide_eq_decide.2 (by omega)
        rw [hA]
        by_cases hj0 : gZ a ≤ j
        · have e1 : nxC a b p x j = decide (x < frm a b p j + (mP a b - 1)) := by unfold nxC; rw [decide_eq_true hj0, Bool.true_and]
          have hz : (j = 0 → a = 0) := by
            intro h0; subst h0
            by_cases h2 : a = 0
            · exact h2
            · unfold gZ at hj0; rw [if_neg h2] at hj0; omega
          rw [e1]
          have hin : ∀ X Y : Res, aIf ((j : Int) == 0) (aIf (decide ((a : Int) > 0)) X Y) Y = Y := by
            intro X Y
            by_cases h0 : j = 0
            · have := hz h0
              rw [decide_eq_false (show ¬ (a : Int) > 0 by omega), aIf_false]
              cases ((j : Int) == 0) <;> rfl
            · rw [beq_eq_false_iff_ne.2 (show (j : Int) ≠ 0 by omega), aIf_false]
          rw [hin]
          by_cases hc : x < frm a b p j + (mP a b - 1)
          · have hx16 : IntKind.u16.wrap ((x : Int) + 1) = ((x + 1 : Nat) : Int) := by rw [u16_of (by omega) (by omega)]; omega
            have hmax : (if ((x + 1 : Nat) : Int) > (frm a b p j : Int) then ((x + 1 : Nat) : Int) else (frm a b p j : Int)) = ((max (frm a b p j) (x + 1) : Nat) : Int) := by
              split <;> omega
            rw [decide_eq_true hc, aIf_true, aIf_true, hx16, hmax]
          · rw [decide_eq_false hc, aIf_false, aIf_false]
        · have h2 : a ≠ 0 ∧ j = 0 := by
            unfold gZ at hj0
            split at hj0 <;> omega
          have e1 : nxC a b p x j = false := by unfold nxC; rw [decide_eq_false hj0]; rfl
          rw [e1, h2.2, aIf_false, show (((0 : Nat) : Int) == 0) = true from rfl, aIf_true, decide_eq_true (show (a : Int) > 0 by omega), aIf_true]
      obtain ⟨m, hm⟩ := iter_run (δ := Unit) (N := 2 ^ a) (F := headedK C68y43 (loopB Try.f68 0)) (ts := fun j _ => [(0, .yld 4), (1, .fp [.int .i64 (a : Int), .int .i64 (b : Int), .int .u16 (p : Int)]), (7, .int .i64 ((2 ^ a : Nat) : Int)), (8, .int .i64 (j : Int))]) (H := fun _ _ => [.cells 0 [.int .i64 a1, .int .i64 b1, .int .u16 p1], .cells 0 [.int .u16 (x : Int)], .cells 0 [.int .u16 r], .cells 0 [.int .i64 e], .loop .ready none 29 [(2, .ptr 0 0 0), (3, .ptr 1 0 0), (4, .ptr 2 0 0), (5, .ptr 3 0 0), (14, .fn (.func 68) [] [.fp [.int .i64 a2, .int .i64 b2, .int .u16 p2]]), (15, .junk)] 430006]) (f := fun j _ => bif nxC a b p x j then .stop .ret [(0, .yld 4), (1, .fp [.int .i64 (a : Int), .int .i64 (b : Int), .int .u16 (p : Int)]), (7, .int .i64 ((2 ^ a : Nat) : Int)), (8, .int .i64 (j : Int)), (46, .bool true)] [.cells 0 [.int .i64 a1, .int .i64 b1, .int .u16 p1], .cells 0 [.int .u16 (x : Int)], .cells 0 [.int .u16 (max (frm a b p j) (x + 1) : Nat)], .cells 0 [.int .i64 0], .loop .done (some .ret) 29 [(2, .ptr 0 0 0), (3, .ptr 1 0 0), (4, .ptr 2 0 0), (5, .ptr 3 0 0), (14, .fn (.func 68) [] [.fp [.int .i64 a2, .int .i64 b2, .int .u16 p2]]), (15, .junk)] 430006] else .go ()) (e := fun _ => (.exit 0, [(0, .yld 4), (1, .fp [.int .i64 (a : Int), .int .i64 (b : Int), .int .u16 (p : Int)]), (7, .int .i64 ((2 ^ a : Nat) : Int)), (8, .int .i64 ((2 ^ a : Nat) : Int)), (9, .bool false)], [.cells 0 [.int .i64 a1, .int .i64 b1, .int .u16 p1], .cells 0 [.int .u16 (x : Int)], .cells 0 [.int .u16 r], .cells 0 [.int .i64 e], .loop .ready none 29 [(2, .ptr 0 0 0), (3, .ptr 1 0 0), (4, .ptr 2 0 0), (5, .ptr 3 0 0), (14, .fn (.func 68) [] [.fp [.int .i64 a2, .int .i64 b2, .int .u16 p2]]), (15, .junk)] 430006])) (I := fun _ _ => True)
        (fun j d hj _ => by
          cases d
          cases hc : nxC a b p x j with
          | true => exact ⟨(by intro h; cases h), fun k => (key j hj k).trans (aIf_pos hc)⟩
          | false => exact ⟨trivial, fun k => (key j hj k).trans (aIf_neg hc)⟩)
        (fun d _ => ⟨(by intro h; cases h), fun k => by rw [M68y43_1a, decide_eq_false (by omega), aIf_false]⟩) (2 ^ a) 0 () (by omega) trivial
      refine ⟨m, fun k => ?_⟩
      refine Eq.trans ?_ (hm k).symm
      rw [runX_first (b := nxC a b p x) (v := fun j => (.ret, [(0, .yld 4), (1, .fp [.int .i64 (a : Int), .int .i64 (b : Int), .int .u16 (p : Int)]), (7, .int .i64 ((2 ^ a : Nat) : Int)), (8, .int .i64 (j : Int)), (46, .bool true)], [.cells 0 [.int .i64 a1, .int .i64 b1, .int .u16 p1], .cells 0 [.int .u16 (x : Int)], .cells 0 [.int .u16 (max (frm a b p j) (x + 1) : Nat)], .cells 0 [.int .i64 0], .loop .done (some .ret) 29 [(2, .ptr 0 0 0), (3, .ptr 1 0 0), (4, .ptr 2 0 0), (5, .ptr 3 0 0), (14, .fn (.func 68) [] [.fp [.int .i64 a2, .int .i64 b2, .int .u16 p2]]), (15, .junk)] 430006])) (fun j => rfl)]
      have eB : nxB (a : Int) (b : Int) (p : Int) (x : Int) = decide (nxF a b p x < 2 ^ a) := rfl
      have eG : nxG (a : Int) (b : Int) (p : Int) (x : Int) = (nxF a b p x : Int) := rfl
      have eN : nxtN (a : Int) (b : Int) (p : Int) (x : Int) = (nextP a b p x : Int) := by unfold nxtN; rw [hr]; rfl
      rw [eB, eG, eN]
      by_cases hn : nxF a b p x < 2 ^ a
      · rw [show decide (firstN (nxC a b p x) (2 ^ a) 0 < 0 + 2 ^ a) = true from decide_eq_true (by show nxF a b p x < 0 + 2 ^ a; omega), decide_eq_true hn, aIf_true, nxF_stop ha hb hpb hx hn]
        rfl
      · rw [show decide (firstN (nxC a b p x) (2 ^ a) 0 < 0 + 2 ^ a) = false from decide_eq_false (by show ¬ nxF a b p x < 0 + 2 ^ a; omega), decide_eq_false hn, aIf_false]
        rfl
    · exact .inl fun k => by rw [aIf_neg hp]
  · exact .inl fun k => rfl)
theorem C68y43_loops : ∀ c, Try.f68.body = some c → LoopsOK C68y43 c := LoopsOK.of 1 (by kernel_rfl) (fun j hj S hS => by
  match j, hj with
  | 0, _ => rw [C68y43_l0] at hS; cases hS; exact L68y43_1_ok
  | n + 1, hj => omega)
theorem S68y43_ok : SpecOK Try.prog 68 S68y43 := liveK_ok C68y43_ok Try.func68 C68y43_loops
noncomputable def T43b : List (FuncId × FSpec) := (68, S68y43) :: T43
theorem T43b_ok : TabOK Try.prog T43b := TabOK.cons En68 S68y43_ok (T43_ok)
noncomputable def C43 : Ctx := (ctx E T43b [] [(0, [2, 3, 4, 5, 15]), (1, [2, 3, 4, 5, 6, 15]), (2, [2, 3, 4, 5, 6, 11, 15]), (3, [4, 5]), (4, [2, 3, 4, 5, 14, 15]), (5, [3, 4, 5, 7]), (6, [3, 4, 5, 7, 19]), (7, [4, 5]), (8, [4, 5])] [] 29 70).ranging 43
theorem C43_ok : CtxOK Try.prog C43 := Ctx.ranging_ok (ctx_ok E_ok E_flds mixed T43b_ok) 43
theorem C43_loops : ∀ c, Try.f43.body = some c → LoopsOK C43 c := LoopsOK.of 0 (by kernel_rfl) (fun j hj S hS => by
  omega) (keys_of (by kernel_rfl))
noncomputable def B43 : FSpec := inlineK C43 Try.f43
noncomputable def S43 : FSpec := fun args H k => match args, H with
  | [.agg [.int .i64 a, .int .i64 b, .int .u16 p], .int .u16 x], [] => aIf (psetB a b p && psetB a b x) (k (.ret (.tup [.int .u16 (nxtN a b p x), .int .i64 (ofE a b p)])) []) none
  | _, _ => none
theorem B43_ok : SpecOK Try.prog 43 B43 := inlineK_ok C43_ok Try.func43 C43_loops
theorem N43 (a b p x : Int) (k : KE) : B43 [.agg [.int .i64 a, .int .i64 b, .int .u16 p], .int .u16 x] [] k =
  aIf (Pl.psetB a b p) (aIf (Pl.right a b p) (aIf (decide (a < 0)) none (aIf (true && IntKind.i64.wrap (1 * 2 ^ min a.toNat 64) == 2 ^ a.toNat && Pl.psetB a b p && Pl.right a b p && Pl.psetB a b x) (aIf (Pl.nxB a b p x) (k (AEnd.ret (AV.tup [AV.int IntKind.u16 (Pl.nxtN a b p x), AV.int IntKind.i64 0])) []) (aIf (Pl.psetB a b p && Pl.i64B 0) (k (AEnd.ret (AV.tup [AV.int IntKind.u16 (Pl.atN a b p 0), AV.int IntKind.i64 (Pl.atE a b p 0)])) []) none)) none)) (k (AEnd.ret (AV.tup [AV.int IntKind.u16 0, AV.int IntKind.i64 90])) [])) none := by kernel_rfl
theorem S43_ok : SpecOK Try.prog 43 S43 := by
  refine B43_ok.turn fun args H => ?_
  unfold S43
  split
  · rename_i a b p x
    rcases Bool.eq_false_or_eq_true (psetB a b p && psetB a b x) with hp | hp
    · refine .inr fun k => ?_
      rw [aIf_pos hp, N43]
      obtain ⟨hp1, hp2⟩ := by simpa only [Bool.and_eq_true] using hp
      rw [aIf_pos hp1]
      cases hr : right a b p with
      | false => unfold nxtN ofE; rw [hr]; rfl
      | true =>
        obtain ⟨a, b, p, rfl, rfl, rfl, ha, hb, hpb⟩ := right_nats hp1 hr
        obtain ⟨_, _, _, _, hx0, hx1⟩ := psetB_iff.1 hp2
        obtain ⟨x, rfl⟩ := Int.eq_ofNat_of_zero_le hx0
        have hx : x < 65536 := by omega
        have eE : ofE (a : Int) (b : Int) (p : Int) = 0 := by unfold ofE; rw [hr]; rfl
        have eN : nxtN (a : Int) (b : Int) (p : Int) (x : Int) = (nextP a b p x : Int) := by unfold nxtN; rw [hr]; rfl
        have eB : nxB (a : Int) (b : Int) (p : Int) (x : Int) = decide (nxF a b p x < 2 ^ a) := rfl
        have e0 : inN (a : Int) (b : Int) 0 = true := by
          have := inN_nat ha hb 0
          rw [show ((0 : Nat) : Int) = 0 from rfl] at this
          rw [this]
          have h2 := gZ_lt a
          exact decide_eq_true (Nat.mul_pos (by omega) (mP_pos a b))
        have eA : atN (a : Int) (b : Int) (p : Int) 0 = (atP a b p 0 : Int) := by unfold atN; rw [hr, e0]; rfl
        have eF : atE (a : Int) (b : Int) (p : Int) 0 = 0 := by unfold atE; rw [hr, e0]; rfl
        rw [eE, eN, eB, aIf_true, aIf_neg (decide_eq_false (show ¬ (a : Int) < 0 by omega)), pow_val ha, hp1, hp2, Int.toNat_natCast, cast_pow, eA, eF, show i64B 0 = true from rfl]
        simp only [beq_self_eq_true, Bool.and_self, aIf_true]
        by_cases hn : nxF a b p x < 2 ^ a
        · rw [decide_eq_true hn, aIf_true]
        · rw [decide_eq_false hn, aIf_false, nxF_none ha hb hpb hx hn]
    · exact .inl fun k => by rw [aIf_neg hp]
  · exact .inl fun k => rfl
theorem En43 : Enters Try.prog 43 := ⟨_, Try.func43, by decide, rfl⟩

/-- ferryman/ferrymanlaw09.PortsetBack -/
noncomputable def T11 : List (FuncId × FSpec) := [(34, S34), (35, S35), (37, S37), (39, S39), (41, S41), (43, S43)]
theorem T11_ok : TabOK Try.prog T11 := TabOK.cons En34 S34_ok (TabOK.cons En35 S35_ok (TabOK.cons En37 S37_ok (TabOK.cons En39 S39_ok (TabOK.cons En41 S41_ok (TabOK.cons En43 S43_ok (TabOK.nil _))))))
noncomputable def L11_13 : ATs → AH → KC → Res := fun ts H k => match ts, H with
  | [(1, .int .i64 i), (2, .ptr 0 0 0), (5, .int .i64 n), (7, .int .u16 x), (13, .int .u16 q), (14, .int .i64 j)], [.cells 0 [.int .i64 a, .int .i64 b, .int .u16 p]] => aIf (psetB a b p && right a b p && inN a b i && n == count a b && q == atN a b p i && x == q && j == 0) (k (.exit 0) [(1, .int .i64 i), (2, .ptr 0 0 0), (5, .int .i64 n), (7, .int .u16 x), (13, .int .u16 q), (14, .int .i64 n), (79, .bool false)] [.cells 0 [.int .i64 a, .int .i64 b, .int .u16 p]]) none
  | _, _ => none
noncomputable def C11 : Ctx := (ctx E T11 [(13, L11_13)] [(0, [1, 2]), (1, [1, 2, 5, 6]), (2, [1, 2, 5, 6, 7, 8]), (3, [1, 2, 5, 6, 7, 8, 35]), (4, [4]), (5, [1, 2, 5, 7, 9, 10]), (6, [1, 2, 5, 7, 9, 10, 11, 12]), (7, [1, 2, 5, 7, 72]), (8, [4]), (9, [1, 2, 5, 7, 74]), (10, [4]), (11, [1, 2, 5, 7, 13]), (12, [1, 2, 5, 7, 13, 14]), (13, [1, 2, 5, 7, 13, 14, 79]), (14, [1, 2, 5, 7, 13, 14]), (15, [1, 2, 5, 7, 14, 15, 16]), (16, [1, 2, 5, 7, 14, 15, 16, 17, 18]), (17, [1, 2, 5, 7, 14, 15, 109]), (18, [4]), (19, [1, 2, 5, 7, 13, 14]), (20, [4]), (1000013, [1, 2, 5, 7, 13, 14])] [] 117 70)
theorem C11_ok : CtxOK Try.prog C11 := ctx_ok E_ok E_flds mixed T11_ok
theorem C11_l0 : C11.loop (loopId (loopB Try.f11 0)) = some L11_13 := by kernel_rfl
theorem L11_13_in : LoopsOK C11 (loopB Try.f11 0) := LoopsOK.within 0 (by kernel_rfl) (fun j hj S hS => by
  omega)
theorem M11_13a (i n x q j a b p : Int) (k : KC) : headedK C11 (loopB Try.f11 0) [(1, .int .i64 i), (2, .ptr 0 0 0), (5, .int .i64 n), (7, .int .u16 x), (13, .int .u16 q), (14, .int .i64 j)] [.cells 0 [.int .i64 a, .int .i64 b, .int .u16 p]] k =
  aIf (decide (j < n)) (aIf (Pl.psetB a b p && Pl.psetB a b q) (aIf (Pl.psetB a b p && Pl.psetB a b (Pl.nxtN a b p q)) (aIf (Pl.ofE a b p != 0) (k AExit.ret [(4, AV.bool false)] [AO.cells 0 [AV.int IntKind.i64 a, AV.int IntKind.i64 b, AV.int IntKind.u16 p]]) (aIf (Pl.idxE a b p (Pl.nxtN a b p q) != 0) (k AExit.ret [(4, AV.bool false)] [AO.cells 0 [AV.int IntKind.i64 a, AV.int IntKind.i64 b, AV.int IntKind.u16 p]]) (aIf (n == 0) none (aIf (Pl.idxN a b p (Pl.nxtN a b p q) != (IntKind.i64.wrap (IntKind.i64.wrap (i + j) + 1)).tmod n) (k AExit.ret [(4, AV.bool false)] [AO.cells 0 [AV.int IntKind.i64 a, AV.int IntKind.i64 b, AV.int IntKind.u16 p]]) (k AExit.normal [(1, AV.int IntKind.i64 i), (2, AV.ptr 0 0 0), (5, AV.int IntKind.i64 n), (7, AV.int IntKind.u16 x), (13, AV.int IntKind.u16 (Pl.nxtN a b p q)), (14, AV.int IntKind.i64 (IntKind.i64.wrap (j + 1)))] [AO.cells 0 [AV.int IntKind.i64 a, AV.int IntKind.i64 b, AV.int IntKind.u16 p]]))))) none) none) (k (AExit.exit 0) [(1, AV.int IntKind.i64 i), (2, AV.ptr 0 0 0), (5, AV.int IntKind.i64 n), (7, AV.int IntKind.u16 x), (13, AV.int IntKind.u16 q), (14, AV.int IntKind.i64 j), (79, AV.bool (decide (j < n)))] [AO.cells 0 [AV.int IntKind.i64 a, AV.int IntKind.i64 b, AV.int IntKind.u16 p]]) := by kernel_rfl
theorem L11_13_ok : LoopSum C11 (loopB Try.f11 0) L11_13 := LoopSum.of C11_ok L11_13_in (fun ts H => by
  unfold L11_13
  split
  · rename_i i n x q j a b p
    rcases Bool.eq_false_or_eq_true (psetB a b p && right a b p && inN a b i && n == count a b && q == atN a b p i && x == q && j == 0) with hp | hp
    · refine .inr ?_
      simp only [aIf_pos hp]
      simp only [Bool.and_eq_true, beq_iff_eq] at hp
      obtain ⟨⟨⟨⟨⟨⟨hp, hr⟩, hi⟩, rfl⟩, rfl⟩, rfl⟩, rfl⟩ := hp
      obtain ⟨a, b, p, rfl, rfl, rfl, ha, hb, hpb⟩ := right_nats hp hr
      have hi0 : 0 ≤ i := by unfold inN at hi; simp at hi; omega
      obtain ⟨i, rfl⟩ := Int.eq_ofNat_of_zero_le hi0
      have hin : i < nP a b := by rw [inN_nat ha hb] at hi; simpa using hi
      have hA : ∀ k : Nat, k < nP a b → atN (a : Int) (b : Int) (p : Int) (k : Int) = (atP a b p k : Int) := fun k hk => by
        unfold atN
        rw [hr, inN_nat ha hb, decide_eq_true hk]; rfl
      have hE : ofE (a : Int) (b : Int) (p : Int) = 0 := by unfold ofE; rw [hr]; rfl
      have hle := nP_le hb
      rw [hA i hin, count_nat ha hb]
      have key : ∀ j : Nat, j < nP a b → ∀ k, headedK C11 (loopB Try.f11 0) [(1, .int .i64 (i : Int)), (2, .ptr 0 0 0), (5, .int .i64 (nP a b : Int)), (7, .int .u16 (atP a b p i : Int)), (13, .int .u16 (atP a b p ((i + j) % nP a b) : Int)), (14, .int .i64 (j : Int))] [.cells 0 [.int .i64 (a : Int), .int .i64 (b : Int), .int .u16 (p : Int)]] k = k .normal [(1, .int .i64 (i : Int)), (2, .ptr 0 0 0), (5, .int .i64 (nP a b : Int)), (7, .int .u16 (atP a b p i : Int)), (13, .int .u16 (atP a b p ((i + (j + 1)) % nP a b) : Int)), (14, .int .i64 ((j + 1 : Nat) : Int))] [.cells 0 [.int .i64 (a : Int), .int .i64 (b : Int), .int .u16 (p : Int)]] := by
        intro j hj k
        have hm : (i + j) % nP a b < nP a b := Nat.mod_lt _ (by omega)
        have hm2 : (i + (j + 1)) % nP a b < nP a b := Nat.mod_lt _ (by omega)
        have hq := at_lt hb hpb hm
        have hq2 := at_lt hb hpb hm2
        have hn1 : IntKind.i64.wrap ((j : Int) + 1) = ((j + 1 : Nat) : Int) := by rw [i64_of (by omega) (by omega)]; omega
        have hn2 : IntKind.i64.wrap (IntKind.i64.wrap ((i : Int) + (j : Int)) + 1) = ((i + (j + 1) : Nat) : Int) := by rw [i64_of (n := (i : Int) + (j : Int)) (by omega) (by omega), i64_of (by omega) (by omega)]; omega
        have eN : nxtN (a : Int) (b : Int) (p : Int) ((atP a b p ((i + j) % nP a b) : Nat) : Int) = ((atP a b p ((i + (j + 1)) % nP a b) : Nat) : Int) := by
          unfold nxtN
          rw [hr]
          show ((nextP a b p (atP a b p ((i + j) % nP a b)) : Nat) : Int) = _
          rw [next_at hb hpb hm, Nat.mod_add_mod, Nat.add_assoc]
        have eH : hasB (a : Int) (b : Int) (p : Int) ((atP a b p ((i + (j + 1)) % nP a b) : Nat) : Int) = true := by rw [has_nat hr]; exact (idx_at hb hpb _).2
        have eI : idxN (a : Int) (b : Int) (p : Int) ((atP a b p ((i + (j + 1)) % nP a b) : Nat) : Int) = (((i + (j + 1)) % nP a b : Nat) : Int) := by
          unfold idxN
          rw [eH]
          show ((idxP a b (atP a b p ((i + (j + 1)) % nP a b)) : Nat) : Int) = _
          rw [(idx_at hb hpb _).1]
        have eF : idxE (a : Int) (b : Int) (p : Int) ((atP a b p ((i + (j + 1)) % nP a b) : Nat) : Int) = 0 := by unfold idxE; rw [hr, eH]; rfl
        rw [M11_13a]
        simp only [decide_eq_true (show (j : Int) < (nP a b : Int) by omega), hp, psetB_nat ha hb (show atP a b p ((i + j) % nP a b) ≤ 65535 by omega), psetB_nat ha hb (show atP a b p ((i + (j + 1)) % nP a b) ≤ 65535 by omega), eN, eI, eF, hE, hn1, hn2, Bool.and_self, aIf_true, tmod_nat, bne_self_eq_false, aIf_false,
          show (((nP a b : Nat) : Int) == 0) = false from beq_eq_false_iff_ne.2 (by omega)]
      have hs : atP a b p ((i + 0) % nP a b) = atP a b p i := by rw [Nat.add_zero, Nat.mod_eq_of_lt hin]
      have he : atP a b p ((i + nP a b) % nP a b) = atP a b p i := by rw [Nat.add_mod_right, Nat.mod_eq_of_lt hin]
      have := iter_fold (δ := Unit) (N := nP a b) (F := headedK C11 (loopB Try.f11 0)) (ts := fun j _ => [(1, .int .i64 (i : Int)), (2, .ptr 0 0 0), (5, .int .i64 (nP a b : Int)), (7, .int .u16 (atP a b p i : Int)), (13, .int .u16 (atP a b p ((i + j) % nP a b) : Int)), (14, .int .i64 (j : Int))]) (H := fun _ _ => [.cells 0 [.int .i64 (a : Int), .int .i64 (b : Int), .int .u16 (p : Int)]]) (f := fun _ u => u) (I := fun _ _ => True) (ee := .exit 0) (te := fun _ => [(1, .int .i64 (i : Int)), (2, .ptr 0 0 0), (5, .int .i64 (nP a b : Int)), (7, .int .u16 (atP a b p i : Int)), (13, .int .u16 (atP a b p ((i + nP a b) % nP a b) : Int)), (14, .int .i64 (nP a b : Int)), (79, .bool false)]) (He := fun _ => [.cells 0 [.int .i64 (a : Int), .int .i64 (b : Int), .int .u16 (p : Int)]])
        (fun j d hj _ => ⟨trivial, fun k => key j hj k⟩)
        (fun d _ k => by rw [M11_13a, decide_eq_false (by omega), aIf_false]) (by intro h; cases h) (nP a b) 0 () (by omega) trivial
      obtain ⟨m, hm⟩ := this
      refine ⟨m, fun k => ?_⟩
      have h2 := hm k
      rw [hs, he] at h2
      exact h2.symm
    · exact .inl fun k => by rw [aIf_neg hp]
  · exact .inl fun k => rfl)
theorem C11_loops : ∀ c, Try.f11.body = some c → LoopsOK C11 c := LoopsOK.of 1 (by kernel_rfl) (fun j hj S hS => by
  match j, hj with
  | 0, _ => rw [C11_l0] at hS; cases hS; exact L11_13_ok
  | n + 1, hj => omega)
noncomputable def S11 : FSpec := inlineK C11 Try.f11
theorem S11_ok : SpecOK Try.prog 11 S11 := inlineK_ok C11_ok Try.func11 C11_loops
theorem En11 : Enters Try.prog 11 := ⟨_, Try.func11, by decide, rfl⟩

end Go.Proofs.Ytkiipegoooldiaa

