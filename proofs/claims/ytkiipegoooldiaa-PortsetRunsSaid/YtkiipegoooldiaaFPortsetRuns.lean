import Derived.Test.YtkiipegoooldiaaA20
import Derived.Test.YtkiipegoooldiaaRows
import Derived.Test.YtkiipegoooldiaaPPortAns
namespace Go.Proofs.Ytkiipegoooldiaa
open Go.Abs Go.Pl

set_option maxRecDepth 10000 in
noncomputable def E : Env :=
  Env.mk [none, some (TI.mk (TypeDesc.func (Array.mk []) (Array.mk []) false) 1 8 [AV.nilf] true false [CK.other]), some (TI.mk (TypeDesc.int IntKind.i64) 1 8 [AV.int IntKind.i64 0] true true [CK.int IntKind.i64]), some (TI.mk (TypeDesc.int IntKind.i64) 1 8 [AV.int IntKind.i64 0] true true [CK.int IntKind.i64]), some (TI.mk TypeDesc.bool 1 1 [AV.bool false] true true [CK.bool]), some (TI.mk (TypeDesc.int IntKind.u8) 1 1 [AV.int IntKind.u8 0] true true [CK.int IntKind.u8]), some (TI.mk (TypeDesc.int IntKind.u8) 1 1 [AV.int IntKind.u8 0] true true [CK.int IntKind.u8]), some (TI.mk (TypeDesc.struct (Array.mk [Field.mk "x" 2 0 false "" "runtime" 0, Field.mk "y" 3 1 false "" "runtime" 8, Field.mk "signed" 4 2 false "" "runtime" 16, Field.mk "code" 6 3 false "" "runtime" 17])) 4 24 [AV.int IntKind.i64 0, AV.int IntKind.i64 0, AV.bool false, AV.int IntKind.u8 0] true true [CK.int IntKind.i64, CK.int IntKind.i64, CK.bool, CK.int IntKind.u8]), some (TI.mk (TypeDesc.struct (Array.mk [Field.mk "x" 2 0 false "" "runtime" 0, Field.mk "y" 3 1 false "" "runtime" 8, Field.mk "signed" 4 2 false "" "runtime" 16, Field.mk "code" 6 3 false "" "runtime" 17])) 4 24 [AV.int IntKind.i64 0, AV.int IntKind.i64 0, AV.bool false, AV.int IntKind.u8 0] true true [CK.int IntKind.i64, CK.int IntKind.i64, CK.bool, CK.int IntKind.u8]), some (TI.mk TypeDesc.string 1 16 [AV.str (ByteArray.mk (Array.mk []))] true true [CK.str]), some (TI.mk TypeDesc.string 1 16 [AV.str (ByteArray.mk (Array.mk []))] true true [CK.str]), some (TI.mk TypeDesc.string 1 16 [AV.str (ByteArray.mk (Array.mk []))] true true [CK.str]), some (TI.mk (TypeDesc.int IntKind.u64) 1 8 [AV.int IntKind.u64 0] true true [CK.int IntKind.u64]), some (TI.mk (TypeDesc.struct (Array.mk [Field.mk "msg" 9 0 false "" "runtime" 0, Field.mk "addr" 12 1 false "" "runtime" 16])) 2 24 [AV.str (ByteArray.mk (Array.mk [])), AV.int IntKind.u64 0] false true [CK.str, CK.int IntKind.u64]), some (TI.mk (TypeDesc.struct (Array.mk [Field.mk "msg" 9 0 false "" "runtime" 0, Field.mk "addr" 12 1 false "" "runtime" 16])) 2 24 [AV.str (ByteArray.mk (Array.mk [])), AV.int IntKind.u64 0] false true [CK.str, CK.int IntKind.u64]), some (TI.mk (TypeDesc.pointer 112) 1 8 [AV.nilp] true true [CK.other]), some (TI.mk (TypeDesc.pointer 115) 1 8 [AV.nilp] true true [CK.other]), some (TI.mk (TypeDesc.pointer 124) 1 8 [AV.nilp] true true [CK.other]), some (TI.mk (TypeDesc.struct (Array.mk [Field.mk "typ" 17 0 false "" "internal/runtime/maps" 0])) 1 8 [AV.nilp] false true [CK.other]), some (TI.mk (TypeDesc.struct (Array.mk [Field.mk "typ" 17 0 false "" "internal/runtime/maps" 0])) 1 8 [AV.nilp] false true [CK.other]), some (TI.mk (TypeDesc.interface (Array.mk [])) 1 16 [AV.nili] true true [CK.other]), some (TI.mk (TypeDesc.int IntKind.i32) 1 4 [AV.int IntKind.i32 0] true true [CK.int IntKind.i32]), some (TI.mk (TypeDesc.slice 5) 1 24 [AV.fs 1 [] SF.nil] true false [CK.slice 1]), some (TI.mk (TypeDesc.int IntKind.u64) 1 8 [AV.int IntKind.u64 0] true true [CK.int IntKind.u64]), some (TI.mk (TypeDesc.func (Array.mk [22]) (Array.mk [22]) false) 1 8 [AV.nilf] true false [CK.other]), some (TI.mk (TypeDesc.int IntKind.i64) 1 8 [AV.int IntKind.i64 0] true true [CK.int IntKind.i64]), none, some (TI.mk (TypeDesc.func (Array.mk [22, 3, 3, 23]) (Array.mk [22, 25]) false) 1 8 [AV.nilf] true false [CK.other]), some (TI.mk (TypeDesc.func (Array.mk []) (Array.mk [4]) false) 1 8 [AV.nilf] true false [CK.other]), none, some (TI.mk (TypeDesc.func (Array.mk [22, 3, 3]) (Array.mk [23, 25]) false) 1 8 [AV.nilf] true false [CK.other]), some (TI.mk (TypeDesc.func (Array.mk [22, 3]) (Array.mk [23]) false) 1 8 [AV.nilf] true false [CK.other]), none, some (TI.mk (TypeDesc.func (Array.mk [22, 3, 3]) (Array.mk [9, 25]) false) 1 8 [AV.nilf] true false [CK.other]), none, some (TI.mk (TypeDesc.func (Array.mk [9]) (Array.mk [22, 3, 3, 25]) false) 1 8 [AV.nilf] true false [CK.other]), some (TI.mk (TypeDesc.func (Array.mk [22, 3, 3, 23, 3]) (Array.mk [4]) false) 1 8 [AV.nilf] true false [CK.other]), some (TI.mk (TypeDesc.slice 55) 1 24 [AV.fs 2 [] SF.nil] true false [CK.slice 2]), some (TI.mk (TypeDesc.func (Array.mk [37]) (Array.mk [22, 25]) true) 1 8 [AV.nilf] true false [CK.other]), none, some (TI.mk (TypeDesc.func (Array.mk [37]) (Array.mk [22, 3]) false) 1 8 [AV.nilf] true false [CK.other]), some (TI.mk (TypeDesc.func (Array.mk [37]) (Array.mk [4]) false) 1 8 [AV.nilf] true false [CK.other]), none, some (TI.mk (TypeDesc.func (Array.mk [22, 3, 3]) (Array.mk [23, 3]) false) 1 8 [AV.nilf] true false [CK.other]), some (TI.mk (TypeDesc.func (Array.mk [22, 3, 3, 23]) (Array.mk [22, 3]) false) 1 8 [AV.nilf] true false [CK.other]), some (TI.mk (TypeDesc.func (Array.mk [22, 3, 3, 23]) (Array.mk [4]) false) 1 8 [AV.nilf] true false [CK.other]), none, some (TI.mk (TypeDesc.func (Array.mk [22, 22, 3]) (Array.mk [4, 25]) false) 1 8 [AV.nilf] true false [CK.other]), none, some (TI.mk (TypeDesc.func (Array.mk [22, 22, 3]) (Array.mk [4, 3]) false) 1 8 [AV.nilf] true false [CK.other]), some (TI.mk (TypeDesc.func (Array.mk [22, 3]) (Array.mk [22, 25]) false) 1 8 [AV.nilf] true false [CK.other]), some (TI.mk (TypeDesc.func (Array.mk [22, 3]) (Array.mk [22, 3]) false) 1 8 [AV.nilf] true false [CK.other]), some (TI.mk (TypeDesc.func (Array.mk [22, 22]) (Array.mk [3]) false) 1 8 [AV.nilf] true false [CK.other]), some (TI.mk (TypeDesc.func (Array.mk [22, 22, 3]) (Array.mk [4]) false) 1 8 [AV.nilf] true false [CK.other]), some (TI.mk (TypeDesc.struct (Array.mk [Field.mk "N" 3 0 false "" "" 0, Field.mk "V" 23 1 false "" "" 8])) 2 16 [AV.int IntKind.i64 0, AV.int IntKind.u64 0] true true [CK.int IntKind.i64, CK.int IntKind.u64]), some (TI.mk (TypeDesc.struct (Array.mk [Field.mk "N" 3 0 false "" "" 0, Field.mk "V" 23 1 false "" "" 8])) 2 16 [AV.int IntKind.i64 0, AV.int IntKind.u64 0] true true [CK.int IntKind.i64, CK.int IntKind.u64]), none, some (TI.mk (TypeDesc.func (Array.mk [22, 3, 3]) (Array.mk [9, 3]) false) 1 8 [AV.nilf] true false [CK.other]), none, some (TI.mk (TypeDesc.func (Array.mk [9]) (Array.mk [22, 3, 3, 3]) false) 1 8 [AV.nilf] true false [CK.other]), some (TI.mk (TypeDesc.func (Array.mk [22, 3, 3, 9]) (Array.mk [4]) false) 1 8 [AV.nilf] true false [CK.other]), some (TI.mk (TypeDesc.int IntKind.u16) 1 2 [AV.int IntKind.u16 0] true true [CK.int IntKind.u16]), some (TI.mk (TypeDesc.struct (Array.mk [Field.mk "Offset" 3 0 false "" "" 0, Field.mk "Len" 3 1 false "" "" 8, Field.mk "PSID" 61 2 false "" "" 16])) 3 24 [AV.int IntKind.i64 0, AV.int IntKind.i64 0, AV.int IntKind.u16 0] true true [CK.int IntKind.i64, CK.int IntKind.i64, CK.int IntKind.u16]), some (TI.mk (TypeDesc.struct (Array.mk [Field.mk "Offset" 3 0 false "" "" 0, Field.mk "Len" 3 1 false "" "" 8, Field.mk "PSID" 61 2 false "" "" 16])) 3 24 [AV.int IntKind.i64 0, AV.int IntKind.i64 0, AV.int IntKind.u16 0] true true [CK.int IntKind.i64, CK.int IntKind.i64, CK.int IntKind.u16]), some (TI.mk (TypeDesc.func (Array.mk [63, 61]) (Array.mk [4, 25]) false) 1 8 [AV.nilf] true false [CK.other]), none, some (TI.mk (TypeDesc.func (Array.mk [3, 3, 61]) (Array.mk [61, 4, 25]) false) 1 8 [AV.nilf] true false [CK.other]), some (TI.mk (TypeDesc.func (Array.mk [63, 61, 61]) (Array.mk [4]) false) 1 8 [AV.nilf] true false [CK.other]), none, some (TI.mk (TypeDesc.func (Array.mk [63]) (Array.mk [3, 25]) false) 1 8 [AV.nilf] true false [CK.other]), none, some (TI.mk (TypeDesc.func (Array.mk [63]) (Array.mk [3, 3]) false) 1 8 [AV.nilf] true false [CK.other]), none, some (TI.mk (TypeDesc.func (Array.mk [63, 3]) (Array.mk [61, 25]) false) 1 8 [AV.nilf] true false [CK.other]), none, some (TI.mk (TypeDesc.func (Array.mk [63, 3]) (Array.mk [61, 3]) false) 1 8 [AV.nilf] true false [CK.other]), some (TI.mk (TypeDesc.func (Array.mk [63, 61]) (Array.mk [3, 25]) false) 1 8 [AV.nilf] true false [CK.other]), some (TI.mk (TypeDesc.func (Array.mk [63, 61]) (Array.mk [3, 3]) false) 1 8 [AV.nilf] true false [CK.other]), some (TI.mk (TypeDesc.func (Array.mk [63, 61]) (Array.mk [61, 25]) false) 1 8 [AV.nilf] true false [CK.other]), some (TI.mk (TypeDesc.func (Array.mk [63, 61]) (Array.mk [61, 3]) false) 1 8 [AV.nilf] true false [CK.other]), some (TI.mk (TypeDesc.func (Array.mk [63, 3, 61]) (Array.mk [4]) false) 1 8 [AV.nilf] true false [CK.other]), some (TI.mk (TypeDesc.func (Array.mk [63, 3]) (Array.mk [4]) false) 1 8 [AV.nilf] true false [CK.other]), some (TI.mk (TypeDesc.func (Array.mk [63, 61]) (Array.mk [4]) false) 1 8 [AV.nilf] true false [CK.other]), none, some (TI.mk (TypeDesc.func (Array.mk [3, 3, 61]) (Array.mk [61, 4, 3]) false) 1 8 [AV.nilf] true false [CK.other]), some (TI.mk (TypeDesc.func (Array.mk [63, 61]) (Array.mk [4, 3]) false) 1 8 [AV.nilf] true false [CK.other]), some (TI.mk (TypeDesc.func (Array.mk [63]) (Array.mk [25]) false) 1 8 [AV.nilf] true false [CK.other]), some (TI.mk (TypeDesc.func (Array.mk [63]) (Array.mk [3]) false) 1 8 [AV.nilf] true false [CK.other]), some (TI.mk (TypeDesc.slice 108) 1 24 [AV.fs 2 [] SF.nil] true false [CK.slice 2]), none, some (TI.mk (TypeDesc.func (Array.mk [63]) (Array.mk [88, 25]) false) 1 8 [AV.nilf] true false [CK.other]), none, some (TI.mk (TypeDesc.func (Array.mk [63]) (Array.mk [88, 3]) false) 1 8 [AV.nilf] true false [CK.other]), some (TI.mk (TypeDesc.func (Array.mk [88, 88]) (Array.mk [4]) false) 1 8 [AV.nilf] true false [CK.other]), some (TI.mk (TypeDesc.func (Array.mk [63]) (Array.mk [4]) false) 1 8 [AV.nilf] true false [CK.other]), some (TI.mk (TypeDesc.func (Array.mk [22, 3, 3]) (Array.mk [4]) false) 1 8 [AV.nilf] true false [CK.other]), some (TI.mk (TypeDesc.func (Array.mk [23, 3]) (Array.mk [4]) false) 1 8 [AV.nilf] true false [CK.other]), some (TI.mk (TypeDesc.func (Array.mk [22, 3, 23]) (Array.mk []) false) 1 8 [AV.nilf] true false [CK.other]), some (TI.mk (TypeDesc.int IntKind.u64) 1 8 [AV.int IntKind.u64 0] true true [CK.int IntKind.u64]), some (TI.mk (TypeDesc.func (Array.mk [9]) (Array.mk [3]) false) 1 8 [AV.nilf] true false [CK.other]), some (TI.mk (TypeDesc.slice 23) 1 24 [AV.fs 1 [] SF.nil] true false [CK.slice 1]), some (TI.mk (TypeDesc.func (Array.mk [100]) (Array.mk [22]) false) 1 8 [AV.nilf] true false [CK.other]), some (TI.mk (TypeDesc.func (Array.mk [22]) (Array.mk [100]) false) 1 8 [AV.nilf] true false [CK.other]), some (TI.mk (TypeDesc.int IntKind.u32) 1 4 [AV.int IntKind.u32 0] true true [CK.int IntKind.u32]), some (TI.mk (TypeDesc.func (Array.mk [3, 61]) (Array.mk [3]) false) 1 8 [AV.nilf] true false [CK.other]), some (TI.mk (TypeDesc.func (Array.mk [109]) (Array.mk []) false) 1 8 [AV.nilf] true false [CK.other]), some (TI.mk (TypeDesc.func (Array.mk [63]) (Array.mk [105]) false) 1 8 [AV.nilf] true false [CK.other]), some (TI.mk (TypeDesc.struct (Array.mk [Field.mk "From" 61 0 false "" "" 0, Field.mk "To" 61 1 false "" "" 2])) 2 4 [AV.int IntKind.u16 0, AV.int IntKind.u16 0] true true [CK.int IntKind.u16, CK.int IntKind.u16]), some (TI.mk (TypeDesc.struct (Array.mk [Field.mk "From" 61 0 false "" "" 0, Field.mk "To" 61 1 false "" "" 2])) 2 4 [AV.int IntKind.u16 0, AV.int IntKind.u16 0] true true [CK.int IntKind.u16, CK.int IntKind.u16]), some (TI.mk (TypeDesc.func (Array.mk [108]) (Array.mk [4]) false) 1 8 [AV.nilf] true false [CK.other]), some (TI.mk (TypeDesc.func (Array.mk []) (Array.mk [9]) false) 1 8 [AV.nilf] true false [CK.other]), some (TI.mk (TypeDesc.struct (Array.mk [Field.mk "_interface" 17 0 false "" "runtime" 0, Field.mk "concrete" 17 1 false "" "runtime" 8, Field.mk "asserted" 17 2 false "" "runtime" 16, Field.mk "missingMethod" 9 3 false "" "runtime" 24])) 4 40 [AV.nilp, AV.nilp, AV.nilp, AV.str (ByteArray.mk (Array.mk []))] false true [CK.other, CK.other, CK.other, CK.str]), some (TI.mk (TypeDesc.struct (Array.mk [Field.mk "_interface" 17 0 false "" "runtime" 0, Field.mk "concrete" 17 1 false "" "runtime" 8, Field.mk "asserted" 17 2 false "" "runtime" 16, Field.mk "missingMethod" 9 3 false "" "runtime" 24])) 4 40 [AV.nilp, AV.nilp, AV.nilp, AV.str (ByteArray.mk (Array.mk []))] false true [CK.other, CK.other, CK.other, CK.str]), some (TI.mk (TypeDesc.array 0 16) 0 0 [] true true []), some (TI.mk (TypeDesc.struct (Array.mk [Field.mk "_" 113 0 false "" "runtime" 0])) 0 0 [] false true []), some (TI.mk (TypeDesc.struct (Array.mk [Field.mk "_" 113 0 false "" "runtime" 0])) 0 0 [] false true []), some (TI.mk (TypeDesc.func (Array.mk []) (Array.mk [3]) false) 1 8 [AV.nilf] true false [CK.other]), some (TI.mk (TypeDesc.int IntKind.u8) 1 1 [AV.int IntKind.u8 0] true true [CK.int IntKind.u8]), some (TI.mk (TypeDesc.int IntKind.u8) 1 1 [AV.int IntKind.u8 0] true true [CK.int IntKind.u8]), some (TI.mk (TypeDesc.func (Array.mk [125, 125]) (Array.mk [4]) false) 1 8 [AV.nilf] true false [CK.other]), some (TI.mk (TypeDesc.pointer 5) 1 8 [AV.nilp] true true [CK.other]), some (TI.mk (TypeDesc.int IntKind.i32) 1 4 [AV.int IntKind.i32 0] true true [CK.int IntKind.i32]), some (TI.mk (TypeDesc.int IntKind.i32) 1 4 [AV.int IntKind.i32 0] true true [CK.int IntKind.i32]), some (TI.mk (TypeDesc.struct (Array.mk [Field.mk "Size_" 12 0 false "" "" 0, Field.mk "PtrBytes" 12 1 false "" "" 8, Field.mk "Hash" 103 2 false "" "" 16, Field.mk "TFlag" 117 3 false "" "" 20, Field.mk "Align_" 5 4 false "" "" 21, Field.mk "FieldAlign_" 5 5 false "" "" 22, Field.mk "Kind_" 118 6 false "" "" 23, Field.mk "Equal" 119 7 false "" "" 24, Field.mk "GCData" 120 8 false "" "" 32, Field.mk "Str" 121 9 false "" "" 40, Field.mk "PtrToThis" 122 10 false "" "" 44])) 11 48 [AV.int IntKind.u64 0, AV.int IntKind.u64 0, AV.int IntKind.u32 0, AV.int IntKind.u8 0, AV.int IntKind.u8 0, AV.int IntKind.u8 0, AV.int IntKind.u8 0, AV.nilf, AV.nilp, AV.int IntKind.i32 0, AV.int IntKind.i32 0] false false [CK.int IntKind.u64, CK.int IntKind.u64, CK.int IntKind.u32, CK.int IntKind.u8, CK.int IntKind.u8, CK.int IntKind.u8, CK.int IntKind.u8, CK.other, CK.other, CK.int IntKind.i32, CK.int IntKind.i32]), some (TI.mk (TypeDesc.struct (Array.mk [Field.mk "Size_" 12 0 false "" "" 0, Field.mk "PtrBytes" 12 1 false "" "" 8, Field.mk "Hash" 103 2 false "" "" 16, Field.mk "TFlag" 117 3 false "" "" 20, Field.mk "Align_" 5 4 false "" "" 21, Field.mk "FieldAlign_" 5 5 false "" "" 22, Field.mk "Kind_" 118 6 false "" "" 23, Field.mk "Equal" 119 7 false "" "" 24, Field.mk "GCData" 120 8 false "" "" 32, Field.mk "Str" 121 9 false "" "" 40, Field.mk "PtrToThis" 122 10 false "" "" 44])) 11 48 [AV.int IntKind.u64 0, AV.int IntKind.u64 0, AV.int IntKind.u32 0, AV.int IntKind.u8 0, AV.int IntKind.u8 0, AV.int IntKind.u8 0, AV.int IntKind.u8 0, AV.nilf, AV.nilp, AV.int IntKind.i32 0, AV.int IntKind.i32 0] false false [CK.int IntKind.u64, CK.int IntKind.u64, CK.int IntKind.u32, CK.int IntKind.u8, CK.int IntKind.u8, CK.int IntKind.u8, CK.int IntKind.u8, CK.other, CK.other, CK.int IntKind.i32, CK.int IntKind.i32]), some (TI.mk TypeDesc.unsafePointer 1 8 [AV.nilp] true true [CK.other])]
theorem E_ok : EnvOK Try.prog E := (show E = envOf Try.prog by kernel_rfl) ▸ envOf_ok _
theorem E_flds : FieldsOK E := fieldsB_ok (by kernel_rfl)
theorem mixed : Try.prog.follows .mixedOrders = true := by kernel_rfl
/-- ferryman/portset.Check -/
noncomputable def T47 : List (FuncId × FSpec) := []
theorem T47_ok : TabOK Try.prog T47 := TabOK.nil _
noncomputable def C47 : Ctx := (ctx E T47 [] [(0, [1]), (1, [33]), (2, [2]), (3, [2])] [] 34 70)
theorem C47_ok : CtxOK Try.prog C47 := ctx_ok E_ok E_flds mixed T47_ok
noncomputable def B47 : FSpec := inlineK C47 Try.f47
noncomputable def S47 : FSpec := fun args H k => match args, H with
  | [.agg [.int .i64 a, .int .i64 b, .int .u16 x]], [] => aIf (psetB a b x) (aIf (right a b x) (k (.ret (.int .i64 0)) []) (k (.ret (.int .i64 90)) [])) none
  | _, _ => none
theorem B47_ok : SpecOK Try.prog 47 B47 := inlineK_ok C47_ok Try.func47 (fun _ _ => LoopsOK.none _)
theorem N47 (a b x : Int) (k : KE) : B47 [.agg [.int .i64 a, .int .i64 b, .int .u16 x]] [] k =
    aIf (decide (a < 0)) (k (AEnd.ret (AV.int IntKind.i64 90)) [])
    (aIf (decide (a > 15)) (k (AEnd.ret (AV.int IntKind.i64 90)) [])
      (aIf (decide (b < 0)) (k (AEnd.ret (AV.int IntKind.i64 90)) [])
        (aIf (decide (b > IntKind.i64.wrap (16 - a))) (k (AEnd.ret (AV.int IntKind.i64 90)) [])
          (aIf (decide (IntKind.u64.wrap b < 0)) none
            (aIf ((IntKind.u32.wrap x).fdiv (2 ^ min (IntKind.u64.wrap b).toNat 32) != 0)
              (k (AEnd.ret (AV.int IntKind.i64 90)) []) (k (AEnd.ret (AV.int IntKind.i64 0)) [])))))) := by kernel_rfl
theorem S47_ok : SpecOK Try.prog 47 S47 := by
  refine B47_ok.turn fun args H => ?_
  unfold S47
  split
  · rename_i a b x
    rcases Bool.eq_false_or_eq_true (psetB a b x) with hp | hp
    · refine .inr fun k => ?_
      rw [aIf_pos hp, N47]
      exact check_law hp _ _
    · exact .inl fun k => by rw [aIf_neg hp]
  · exact .inl fun k => rfl
theorem En47 : Enters Try.prog 47 := ⟨_, Try.func47, by decide, rfl⟩

/-- ferryman/portset.low -/
noncomputable def T62 : List (FuncId × FSpec) := []
theorem T62_ok : TabOK Try.prog T62 := TabOK.nil _
noncomputable def C62 : Ctx := (ctx E T62 [] [(0, [1]), (1, [2])] [] 9 70)
theorem C62_ok : CtxOK Try.prog C62 := ctx_ok E_ok E_flds mixed T62_ok
noncomputable def S62 : FSpec := inlineK C62 Try.f62
theorem S62_ok : SpecOK Try.prog 62 S62 := inlineK_ok C62_ok Try.func62 (fun _ _ => LoopsOK.none _)
theorem En62 : Enters Try.prog 62 := ⟨_, Try.func62, by decide, rfl⟩
noncomputable def V62 : FSpec := fun args H k => match args, H with
  | [.agg [.int .i64 a, .int .i64 b, .int .u16 p]], [] => aIf (psetB a b p && right a b p) (k (.ret (.int .i64 (16 - a - b))) []) none
  | _, _ => none
theorem M62 (a b p : Int) (k : KE) : S62 [.agg [.int .i64 a, .int .i64 b, .int .u16 p]] [] k =
  k (AEnd.ret (AV.int IntKind.i64 (IntKind.i64.wrap (IntKind.i64.wrap (16 - a) - b)))) [] := by kernel_rfl
theorem V62_ok : SpecOK Try.prog 62 V62 := by
  refine S62_ok.turn fun args H => ?_
  unfold V62
  split
  · rename_i a b p
    rcases Bool.eq_false_or_eq_true (psetB a b p && right a b p) with hp | hp
    · refine .inr fun k => ?_
      rw [aIf_pos hp, M62]
      exact low_law hp k
    · exact .inl fun k => by rw [aIf_neg hp]
  · exact .inl fun k => rfl

/-- ferryman/portset.Of -/
noncomputable def T36 : List (FuncId × FSpec) := [(47, S47), (62, S62)]
theorem T36_ok : TabOK Try.prog T36 := TabOK.cons En47 S47_ok (TabOK.cons En62 S62_ok (TabOK.nil _))
noncomputable def C36 : Ctx := (ctx E T36 [] [(0, [0, 1, 2]), (1, [0, 1, 2, 9]), (2, [0, 1, 2, 9, 10]), (3, [0, 1, 2, 9, 10, 18]), (4, [6, 7, 8]), (5, [0, 1, 9, 11]), (6, [1, 9, 11, 31]), (7, [6, 7, 8]), (8, [6, 7, 8])] [] 43 70)
theorem C36_ok : CtxOK Try.prog C36 := ctx_ok E_ok E_flds mixed T36_ok
noncomputable def B36 : FSpec := inlineK C36 Try.f36
noncomputable def S36 : FSpec := fun args H k => match args, H with
  | [.int .i64 a, .int .i64 b, .int .u16 x], [] => aIf (psetB a b x) (aIf (right a b 0) (aIf (mine a x) (k (.ret (.tup [.int .u16 (psid a b x), .bool true, .int .i64 0])) []) (k (.ret (.tup [.int .u16 0, .bool false, .int .i64 0])) [])) (k (.ret (.tup [.int .u16 0, .bool false, .int .i64 90])) [])) none
  | _, _ => none
theorem B36_ok : SpecOK Try.prog 36 B36 := inlineK_ok C36_ok Try.func36 (fun _ _ => LoopsOK.none _)
theorem N36 (a b x : Int) (k : KE) : B36 [.int .i64 a, .int .i64 b, .int .u16 x] [] k =
    aIf (Pl.psetB a b 0)
  (aIf (Pl.right a b 0)
    (aIf (decide (a > 0))
      (aIf (decide (IntKind.u64.wrap (IntKind.i64.wrap (16 - a)) < 0)) none
        (aIf ((IntKind.u32.wrap x).fdiv (2 ^ min (IntKind.u64.wrap (IntKind.i64.wrap (16 - a))).toNat 32) == 0)
          (k (AEnd.ret (AV.tup [AV.int IntKind.u16 0, AV.bool false, AV.int IntKind.i64 0])) [])
          (aIf (decide (IntKind.u64.wrap (IntKind.i64.wrap (IntKind.i64.wrap (16 - a) - b)) < 0)) none
            (aIf (decide (IntKind.u64.wrap b < 0)) none
              (k
                (AEnd.ret
                  (AV.tup
                    [AV.int IntKind.u16
                        (IntKind.u16.wrap
                          (IntKind.u32.wrap
                            ↑(BitVec.ofInt 32
                                    ((IntKind.u32.wrap x).fdiv
                                      (2 ^
                                        min (IntKind.u64.wrap (IntKind.i64.wrap (IntKind.i64.wrap (16 - a) - b))).toNat
                                          32)) &&&
                                  BitVec.ofInt 32
                                    (IntKind.u32.wrap
                                      (IntKind.u32.wrap (1 * 2 ^ min (IntKind.u64.wrap b).toNat 32) - 1))).toNat)),
                      AV.bool true, AV.int IntKind.i64 0]))
                [])))))
      (aIf (decide (IntKind.u64.wrap (IntKind.i64.wrap (IntKind.i64.wrap (16 - a) - b)) < 0)) none
        (aIf (decide (IntKind.u64.wrap b < 0)) none
          (k
            (AEnd.ret
              (AV.tup
                [AV.int IntKind.u16
                    (IntKind.u16.wrap
                      (IntKind.u32.wrap
                        ↑(BitVec.ofInt 32
                                ((IntKind.u32.wrap x).fdiv
                                  (2 ^
                                    min (IntKind.u64.wrap (IntKind.i64.wrap (IntKind.i64.wrap (16 - a) - b))).toNat
                                      32)) &&&
                              BitVec.ofInt 32
                                (IntKind.u32.wrap
                                  (IntKind.u32.wrap (1 * 2 ^ min (IntKind.u64.wrap b).toNat 32) - 1))).toNat)),
                  AV.bool true, AV.int IntKind.i64 0]))
            []))))
    (k (AEnd.ret (AV.tup [AV.int IntKind.u16 0, AV.bool false, AV.int IntKind.i64 90])) []))
  none := by kernel_rfl
theorem S36_ok : SpecOK Try.prog 36 S36 := by
  refine B36_ok.turn fun args H => ?_
  unfold S36
  split
  · rename_i a b x
    rcases Bool.eq_false_or_eq_true (psetB a b x) with hp | hp
    · refine .inr fun k => ?_
      rw [aIf_pos hp, N36]
      exact of_law hp k
    · exact .inl fun k => by rw [aIf_neg hp]
  · exact .inl fun k => rfl
theorem En36 : Enters Try.prog 36 := ⟨_, Try.func36, by decide, rfl⟩

/-- ferryman/portset.size -/
noncomputable def T63 : List (FuncId × FSpec) := [(62, S62)]
theorem T63_ok : TabOK Try.prog T63 := TabOK.cons En62 S62_ok (TabOK.nil _)
noncomputable def C63 : Ctx := (ctx E T63 [] [(0, [1]), (1, [2])] [] 6 70)
theorem C63_ok : CtxOK Try.prog C63 := ctx_ok E_ok E_flds mixed T63_ok
noncomputable def S63 : FSpec := inlineK C63 Try.f63
theorem S63_ok : SpecOK Try.prog 63 S63 := inlineK_ok C63_ok Try.func63 (fun _ _ => LoopsOK.none _)
theorem En63 : Enters Try.prog 63 := ⟨_, Try.func63, by decide, rfl⟩
noncomputable def V63 : FSpec := fun args H k => match args, H with
  | [.agg [.int .i64 a, .int .i64 b, .int .u16 p]], [] => aIf (psetB a b p && right a b p) (k (.ret (.int .i64 (mI a b))) []) none
  | _, _ => none
theorem M63 (a b p : Int) (k : KE) : S63 [.agg [.int .i64 a, .int .i64 b, .int .u16 p]] [] k =
  aIf (decide (IntKind.i64.wrap (IntKind.i64.wrap (16 - a) - b) < 0)) none (k (AEnd.ret (AV.int IntKind.i64 (IntKind.i64.wrap (1 * 2 ^ min (IntKind.i64.wrap (IntKind.i64.wrap (16 - a) - b)).toNat 64)))) []) := by kernel_rfl
theorem V63_ok : SpecOK Try.prog 63 V63 := by
  refine S63_ok.turn fun args H => ?_
  unfold V63
  split
  · rename_i a b p
    rcases Bool.eq_false_or_eq_true (psetB a b p && right a b p) with hp | hp
    · refine .inr fun k => ?_
      rw [aIf_pos hp, M63]
      exact size_law hp k
    · exact .inl fun k => by rw [aIf_neg hp]
  · exact .inl fun k => rfl

/-- ferryman/portset.Count -/
noncomputable def T37 : List (FuncId × FSpec) := [(47, S47), (63, S63)]
theorem T37_ok : TabOK Try.prog T37 := TabOK.cons En47 S47_ok (TabOK.cons En63 S63_ok (TabOK.nil _))
noncomputable def C37 : Ctx := (ctx E T37 [] [(0, [1]), (1, [1, 4]), (2, [1, 4, 9]), (3, [2, 3]), (4, [1, 5]), (5, [1, 5, 13]), (6, [1, 5]), (7, [2, 3])] [] 22 70)
theorem C37_ok : CtxOK Try.prog C37 := ctx_ok E_ok E_flds mixed T37_ok
noncomputable def B37 : FSpec := inlineK C37 Try.f37
noncomputable def S37 : FSpec := fun args H k => match args, H with
  | [.agg [.int .i64 a, .int .i64 b, .int .u16 x]], [] => aIf (psetB a b x) (aIf (right a b x) (k (.ret (.tup [.int .i64 (count a b), .int .i64 0])) []) (k (.ret (.tup [.int .i64 0, .int .i64 90])) [])) none
  | _, _ => none
theorem B37_ok : SpecOK Try.prog 37 B37 := inlineK_ok C37_ok Try.func37 (fun _ _ => LoopsOK.none _)
theorem N37 (a b x : Int) (k : KE) : B37 [.agg [.int .i64 a, .int .i64 b, .int .u16 x]] [] k =
    aIf (Pl.psetB a b x)
  (aIf (Pl.right a b x)
    (aIf (decide (a > 0))
      (aIf (decide (a < 0)) none
        (aIf (decide (IntKind.i64.wrap (IntKind.i64.wrap (16 - a) - b) < 0)) none
          (k
            (AEnd.ret
              (AV.tup
                [AV.int IntKind.i64
                    (IntKind.i64.wrap
                      (IntKind.i64.wrap (IntKind.i64.wrap (1 * 2 ^ min a.toNat 64) - 1) *
                        IntKind.i64.wrap (1 * 2 ^ min (IntKind.i64.wrap (IntKind.i64.wrap (16 - a) - b)).toNat 64))),
                  AV.int IntKind.i64 0]))
            [])))
      (aIf (decide (IntKind.i64.wrap (IntKind.i64.wrap (16 - a) - b) < 0)) none
        (k
          (AEnd.ret
            (AV.tup
              [AV.int IntKind.i64
                  (IntKind.i64.wrap
                    (1 * IntKind.i64.wrap (1 * 2 ^ min (IntKind.i64.wrap (IntKind.i64.wrap (16 - a) - b)).toNat 64))),
                AV.int IntKind.i64 0]))
          [])))
    (k (AEnd.ret (AV.tup [AV.int IntKind.i64 0, AV.int IntKind.i64 90])) []))
  none := by kernel_rfl
theorem S37_ok : SpecOK Try.prog 37 S37 := by
  refine B37_ok.turn fun args H => ?_
  unfold S37
  split
  · rename_i a b x
    rcases Bool.eq_false_or_eq_true (psetB a b x) with hp | hp
    · refine .inr fun k => ?_
      rw [aIf_pos hp, N37]
      exact count_law hp k
    · exact .inl fun k => by rw [aIf_neg hp]
  · exact .inl fun k => rfl
theorem En37 : Enters Try.prog 37 := ⟨_, Try.func37, by decide, rfl⟩

/-- ferryman/portset.At -/
noncomputable def T39 : List (FuncId × FSpec) := [(37, S37), (62, V62), (63, V63)]
theorem T39_ok : TabOK Try.prog T39 := TabOK.cons En37 S37_ok (TabOK.cons En62 V62_ok (TabOK.cons En63 V63_ok (TabOK.nil _)))
noncomputable def C39 : Ctx := (ctx E T39 [] [(0, [1, 2]), (1, [1, 2, 6, 7]), (2, [1, 2, 6, 7, 15]), (3, [4, 5]), (4, [1, 2, 23]), (5, [4, 5]), (6, [1, 2, 8]), (7, [1, 2, 8, 30]), (8, [1, 2, 8]), (9, [4, 5])] [] 55 70)
theorem C39_ok : CtxOK Try.prog C39 := ctx_ok E_ok E_flds mixed T39_ok
noncomputable def B39 : FSpec := inlineK C39 Try.f39
noncomputable def S39 : FSpec := fun args H k => match args, H with
  | [.agg [.int .i64 a, .int .i64 b, .int .u16 p], .int .i64 i], [] => aIf (psetB a b p && i64B i) (k (.ret (.tup [.int .u16 (atN a b p i), .int .i64 (atE a b p i)])) []) none
  | _, _ => none
theorem B39_ok : SpecOK Try.prog 39 B39 := inlineK_ok C39_ok Try.func39 (fun _ _ => LoopsOK.none _)
theorem N39 (a b p i : Int) (k : KE) : B39 [.agg [.int .i64 a, .int .i64 b, .int .u16 p], .int .i64 i] [] k =
  aIf (Pl.psetB a b p) (aIf (Pl.right a b p) (aIf (decide (i < 0)) (k (AEnd.ret (AV.tup [AV.int IntKind.u16 0, AV.int IntKind.i64 5])) []) (aIf (decide (i ≥ Pl.count a b)) (k (AEnd.ret (AV.tup [AV.int IntKind.u16 0, AV.int IntKind.i64 5])) []) (aIf (Pl.psetB a b p && Pl.right a b p) (aIf (Pl.mI a b == 0) none (aIf (decide (a > 0)) (aIf (decide (IntKind.u64.wrap (IntKind.i64.wrap (16 - a)) < 0)) none (aIf (Pl.psetB a b p && Pl.right a b p) (aIf (decide (IntKind.u64.wrap (16 - a - b) < 0)) none (aIf (Pl.psetB a b p && Pl.right a b p) (aIf (Pl.mI a b == 0) none (k (AEnd.ret (AV.tup [AV.int IntKind.u16 (IntKind.u16.wrap (IntKind.u32.wrap (↑(BitVec.ofInt 32 (IntKind.u32.wrap (↑(BitVec.ofInt 32 (IntKind.u32.wrap (IntKind.u32.wrap (IntKind.i64.wrap (IntKind.i64.wrap (i.tdiv (Pl.mI a b)) + 1)) * 2 ^ min (IntKind.u64.wrap (IntKind.i64.wrap (16 - a))).toNat 32)) ||| BitVec.ofInt 32 (IntKind.u32.wrap (IntKind.u32.wrap p * 2 ^ min (IntKind.u64.wrap (16 - a - b)).toNat 32))).toNat : Int)) ||| BitVec.ofInt 32 (IntKind.u32.wrap (i.tmod (Pl.mI a b)))).toNat : Int))), AV.int IntKind.i64 0])) [])) none)) none)) (aIf (decide (IntKind.u64.wrap (IntKind.i64.wrap (16 - a)) < 0)) none (aIf (Pl.psetB a b p && Pl.right a b p) (aIf (decide (IntKind.u64.wrap (16 - a - b) < 0)) none (aIf (Pl.psetB a b p && Pl.right a b p) (aIf (Pl.mI a b == 0) none (k (AEnd.ret (AV.tup [AV.int IntKind.u16 (IntKind.u16.wrap (IntKind.u32.wrap (↑(BitVec.ofInt 32 (IntKind.u32.wrap (↑(BitVec.ofInt 32 (IntKind.u32.wrap (IntKind.u32.wrap (IntKind.i64.wrap (i.tdiv (Pl.mI a b))) * 2 ^ min (IntKind.u64.wrap (IntKind.i64.wrap (16 - a))).toNat 32)) ||| BitVec.ofInt 32 (IntKind.u32.wrap (IntKind.u32.wrap p * 2 ^ min (IntKind.u64.wrap (16 - a - b)).toNat 32))).toNat : Int)) ||| BitVec.ofInt 32 (IntKind.u32.wrap (i.tmod (Pl.mI a b)))).toNat : Int))), AV.int IntKind.i64 0])) [])) none)) none)))) none))) (k (AEnd.ret (AV.tup [AV.int IntKind.u16 0, AV.int IntKind.i64 90])) [])) none := by kernel_rfl
theorem S39_ok : SpecOK Try.prog 39 S39 := by
  refine B39_ok.turn fun args H => ?_
  unfold S39
  split
  · rename_i a b p i
    rcases Bool.eq_false_or_eq_true (psetB a b p && i64B i) with hp | hp
    · refine .inr fun k => ?_
      rw [aIf_pos hp, N39]
      obtain ⟨hp, hi⟩ := by simpa only [Bool.and_eq_true] using hp
      have hi := i64B_iff.1 hi
      unfold atN atE
      rw [aIf_pos hp]
      cases hr : right a b p with
      | false => simp only [Bool.false_and, cond_false]; rfl
      | true =>
        obtain ⟨a, b, p, rfl, rfl, rfl, ha, hb, hpb⟩ := right_nats hp hr
        have hpr : (psetB (a : Int) (b : Int) (p : Int) && true) = true := by rw [Bool.and_true]; exact hp
        simp only [Bool.true_and, cond_true]
        refine Eq.trans ?_ (aIf_pos rfl).symm
        by_cases h0 : i < 0
        · rw [inN_neg h0, aIf_pos (decide_eq_true h0)]; simp only [cond_false]
        · obtain ⟨i, rfl⟩ := Int.eq_ofNat_of_zero_le (Int.not_lt.1 h0)
          rw [inN_nat ha hb, aIf_neg (decide_eq_false h0), count_nat ha hb]
          by_cases h1 : i < nP a b
          · have hg := group_lt ha hb h1
            have h15 := two_le ha hb
            have hpos := mP_pos a b
            have hle := mP_le16 a b
            have hm : i % mP a b < mP a b := Nat.mod_lt _ hpos
            have hd0 : (0 : Int) ≤ ((i / mP a b : Nat) : Int) := Int.natCast_nonneg _
            have hm0 : (0 : Int) ≤ ((i % mP a b : Nat) : Int) := Int.natCast_nonneg _
            have hq : i / mP a b < 65536 := by omega
            have hw : decide (IntKind.u64.wrap (IntKind.i64.wrap (16 - (a : Int))) < 0) = false := by rw [w16a ha hb]; exact decide_eq_false (by omega)
            have hw2 : decide (IntKind.u64.wrap (16 - (a : Int) - (b : Int)) < 0) = false := by rw [w16b ha hb]; exact decide_eq_false (by omega)
            rw [aIf_neg (decide_eq_false (show ¬ (i : Int) ≥ (nP a b : Int) by omega)), decide_eq_true h1]
            simp only [cond_true, Int.toNat_natCast]
            rw [hpr, aIf_pos rfl, aIf_neg (mI_ne ha hb)]
            by_cases h2 : a = 0
            · subst h2
              rw [aIf_neg (by rfl), aIf_neg hw, aIf_pos rfl, aIf_neg hw2, aIf_pos rfl, aIf_neg (mI_ne ha hb), mI_nat, tdiv_nat, tmod_nat,
                from_val (g := gZ 0 + i / mP 0 b) ha hb hpb hg (by rw [i64_of (by omega) (by omega), u32_of (by omega) (by omega)]; simp [gZ]), u32_of (n := ((i % mP 0 b : Nat) : Int)) (by omega) (by omega), port_val ha hb hpb hg hm]
              rfl
            · have hz : gZ a = 1 := if_neg h2
              rw [aIf_pos (decide_eq_true (show (a : Int) > 0 by omega)), aIf_neg hw, aIf_pos rfl, aIf_neg hw2, aIf_pos rfl, aIf_neg (mI_ne ha hb), mI_nat, tdiv_nat, tmod_nat,
                from_val (g := gZ a + i / mP a b) ha hb hpb hg (by rw [hz, i64_of (n := ((i / mP a b : Nat) : Int)) (by omega) (by omega), i64_of (by omega) (by omega), u32_of (by omega) (by omega)]; omega), u32_of (n := ((i % mP a b : Nat) : Int)) (by omega) (by omega), port_val ha hb hpb hg hm]
              rfl
          · rw [aIf_pos (decide_eq_true (show (i : Int) ≥ (nP a b : Int) by omega)), decide_eq_false h1]; simp only [cond_false]
    · exact .inl fun k => by rw [aIf_neg hp]
  · exact .inl fun k => rfl
theorem En39 : Enters Try.prog 39 := ⟨_, Try.func39, by decide, rfl⟩

/-- ferryman/ferrymanlaw09.alive -/
noncomputable def T35 : List (FuncId × FSpec) := [(36, S36), (37, S37), (39, S39)]
theorem T35_ok : TabOK Try.prog T35 := TabOK.cons En36 S36_ok (TabOK.cons En37 S37_ok (TabOK.cons En39 S39_ok (TabOK.nil _)))
noncomputable def C35 : Ctx := (ctx E T35 [] [(0, []), (1, [1]), (2, [1, 2, 3]), (3, [2, 3, 4, 5]), (4, [2, 3, 4, 5, 6, 7, 8]), (5, [0])] [] 50 70)
theorem C35_ok : CtxOK Try.prog C35 := ctx_ok E_ok E_flds mixed T35_ok
noncomputable def B35 : FSpec := inlineK C35 Try.f35
noncomputable def S35 : FSpec := constK (AV.bool true)
theorem B35_ok : SpecOK Try.prog 35 B35 := inlineK_ok C35_ok Try.func35 (fun _ _ => LoopsOK.none _)
theorem B35_is (k : KE) : B35 [] [] k = k (.ret (AV.bool true)) [] := by kernel_rfl
theorem S35_ok : SpecOK Try.prog 35 S35 := constK_ok B35_ok B35_is
theorem En35 : Enters Try.prog 35 := ⟨_, Try.func35, by decide, rfl⟩

/-- ferryman/portset.runs$1 -/
noncomputable def T68 : List (FuncId × FSpec) := [(62, V62)]
theorem T68_ok : TabOK Try.prog T68 := TabOK.cons En62 V62_ok (TabOK.nil _)
noncomputable def C68 : Ctx := (ctx E T68 [] [(0, [0, 1, 7, 8]), (1, [0, 1, 7, 8, 9]), (2, [0, 1, 3, 7, 8]), (3, [0, 1, 3, 7, 8, 17]), (4, [0, 1, 4, 7, 8]), (5, [0, 1, 7, 8, 46]), (6, [0, 1, 7, 8]), (1000001, [0, 1, 7, 8])] [] 48 70)
theorem C68_ok : CtxOK Try.prog C68 := ctx_ok E_ok E_flds mixed T68_ok
noncomputable def S68 : FSpec := inlineK C68 Try.f68
theorem S68_ok : SpecOK Try.prog 68 S68 := inlineK_ok C68_ok Try.func68 (fun _ _ => LoopsOK.none _)
theorem En68 : Enters Try.prog 68 := ⟨_, Try.func68, by decide, rfl⟩

/-- ferryman/portset.runs -/
noncomputable def T67 : List (FuncId × FSpec) := [(68, S68)]
theorem T67_ok : TabOK Try.prog T67 := TabOK.cons En68 S68_ok (TabOK.nil _)
noncomputable def C67 : Ctx := (ctx E T67 [] [(0, [1]), (1, [2])] [] 4 70)
theorem C67_ok : CtxOK Try.prog C67 := ctx_ok E_ok E_flds mixed T67_ok
noncomputable def S67 : FSpec := inlineK C67 Try.f67
theorem S67_ok : SpecOK Try.prog 67 S67 := inlineK_ok C67_ok Try.func67 (fun _ _ => LoopsOK.none _)
theorem En67 : Enters Try.prog 67 := ⟨_, Try.func67, by decide, rfl⟩

/-- ferryman/portset.Runs -/
noncomputable def T49 : List (FuncId × FSpec) := [(47, S47), (67, S67)]
theorem T49_ok : TabOK Try.prog T49 := TabOK.cons En47 S47_ok (TabOK.cons En67 S67_ok (TabOK.nil _))
noncomputable def C49a : Ctx := ctx E T49 [] [(0, [1, 2, 3, 15]), (1, [1, 2, 3, 4, 15]), (2, [1, 2, 3, 4, 11, 15]), (3, [2, 3]), (4, [1, 2, 3, 5, 15]), (5, [2, 3, 5, 14, 15]), (6, [5, 6]), (7, [5, 6, 7]), (8, [5, 6, 7, 31]), (9, []), (10, []), (11, [2, 3])] [] 44 70
theorem C49a_ok : CtxOK Try.prog C49a := ctx_ok E_ok E_flds mixed T49_ok
noncomputable def L68y49_1 : ATs → AH → KC → Res := fun ts H k => match ts, H with
  | [(0, .yld 2), (1, .fp [.int .i64 a, .int .i64 b, .int .u16 p]), (7, .int .i64 n), (8, .int .i64 i)], [.cells 0 [.int .i64 a1, .int .i64 b1, .int .u16 p1], .cells 0 [.fs 2 [] .nil], .loop .ready none 44 [(2, .fs 0 [] .nil), (3, .int .i64 0), (5, .ptr 1 0 0), (14, .fn (.func 68) [] [.fp [.int .i64 a2, .int .i64 b2, .int .u16 p2]]), (15, .junk)] 490007] => aIf (i == 0 && n == (2 : Int) ^ a.toNat && psetB a b p && right a b p) (k (.exit 0) [(0, .yld 2), (1, .fp [.int .i64 a, .int .i64 b, .int .u16 p]), (7, .int .i64 n), (8, .int .i64 n), (9, .bool false)] [.cells 0 [.int .i64 a1, .int .i64 b1, .int .u16 p1], .cells 0 [.sl 4 (2 * (runsR a b p).length) 0 (runsR a b p).length 2], .loop .ready none 44 [(2, .fs 0 [] .nil), (3, .int .i64 0), (5, .ptr 1 0 0), (14, .fn (.func 68) [] [.fp [.int .i64 a2, .int .i64 b2, .int .u16 p2]]), (15, .junk)] 490007, .cells 0 [.int .u16 (frm a.toNat b.toNat p.toNat (gZ a.toNat) : Nat), .int .u16 (frm a.toNat b.toNat p.toNat (gZ a.toNat) + (mP a.toNat b.toNat - 1) : Nat)], .cells (2 * (runsR a b p).length) (rowsA (runsR a b p))]) none
  | _, _ => none
noncomputable def C68y49 : Ctx := (ctx E T68 [(1, L68y49_1)] [(0, [0, 1, 7, 8]), (1, [0, 1, 7, 8, 9]), (2, [0, 1, 3, 7, 8]), (3, [0, 1, 3, 7, 8, 17]), (4, [0, 1, 4, 7, 8]), (5, [0, 1, 7, 8, 46]), (6, [0, 1, 7, 8]), (1000001, [0, 1, 7, 8])] [] 48 70).yields C49a
noncomputable def S68y49 : FSpec := liveK C68y49 Try.f68
theorem C68y49_ok : CtxOK Try.prog C68y49 := Ctx.yields_ok (ctx_ok E_ok E_flds mixed T68_ok) C49a_ok (fun _ => rfl) rfl
theorem C68y49_l0 : C68y49.loop (loopId (loopB Try.f68 0)) = some L68y49_1 := by kernel_rfl
theorem L68y49_1_in : LoopsOK C68y49 (loopB Try.f68 0) := LoopsOK.within 0 (by kernel_rfl) (fun j hj S hS => by
  omega)
theorem M68y49_1a (a b p n i a1 b1 p1 a2 b2 p2 : Int) (k : KC) : headedK C68y49 (loopB Try.f68 0) [(0, .yld 2), (1, .fp [.int .i64 a, .int .i64 b, .int .u16 p]), (7, .int .i64 n), (8, .int .i64 i)] [.cells 0 [.int .i64 a1, .int .i64 b1, .int .u16 p1], .cells 0 [.fs 2 [] .nil], .loop .ready none 44 [(2, .fs 0 [] .nil), (3, .int .i64 0), (5, .ptr 1 0 0), (14, .fn (.func 68) [] [.fp [.int .i64 a2, .int .i64 b2, .int .u16 p2]]), (15, .junk)] 490007] k =
  aIf (decide (i < n)) (aIf (i == 0) (aIf (decide (a > 0)) (k AExit.normal [(0, AV.yld 2), (1, AV.fp [AV.int IntKind.i64 a, AV.int IntKind.i64 b, AV.int IntKind.u16 p]), (7, AV.int IntKind.i64 n), (8, AV.int IntKind.i64 (IntKind.i64.wrap (i + 1)))] [AO.cells 0 [AV.int IntKind.i64 a1, AV.int IntKind.i64 b1, AV.int IntKind.u16 p1], AO.cells 0 [AV.fs 2 [] SF.nil], AO.loop LoopState.ready none 44 [(2, AV.fs 0 [] SF.nil), (3, AV.int IntKind.i64 0), (5, AV.ptr 1 0 0), (14, AV.fn (Fn.func 68) [] [AV.fp [AV.int IntKind.i64 a2, AV.int IntKind.i64 b2, AV.int IntKind.u16 p2]]), (15, AV.junk)] 490007]) (aIf (decide (IntKind.u64.wrap (IntKind.i64.wrap (16 - a)) < 0)) none (aIf (Pl.psetB a b p && Pl.right a b p) (aIf (decide (IntKind.u64.wrap (16 - a - b) < 0)) none (aIf (Pl.psetB a b p && Pl.right a b p) (aIf (decide (IntKind.u64.wrap (16 - a - b) < 0)) none (k AExit.normal [(0, AV.yld 2), (1, AV.fp [AV.int IntKind.i64 a, AV.int IntKind.i64 b, AV.int IntKind.u16 p]), (7, AV.int IntKind.i64 n), (8, AV.int IntKind.i64 (IntKind.i64.wrap (i + 1)))] [AO.cells 0 [AV.int IntKind.i64 a1, AV.int IntKind.i64 b1, AV.int IntKind.u16 p1], AO.cells 0 [AV.sl 4 2 0 1 2], AO.loop LoopState.ready none 44 [(2, AV.fs 0 [] SF.nil), (3, AV.int IntKind.i64 0), (5, AV.ptr 1 0 0), (14, AV.fn (Fn.func 68) [] [AV.fp [AV.int IntKind.i64 a2, AV.int IntKind.i64 b2, AV.int IntKind.u16 p2]]), (15, AV.junk)] 490007, AO.cells 0 [AV.int IntKind.u16 (IntKind.u16.wrap (IntKind.u32.wrap (↑(BitVec.ofInt 32 (IntKind.u32.wrap (IntKind.u32.wrap i * 2 ^ min (IntKind.u64.wrap (IntKind.i64.wrap (16 - a))).toNat 32)) ||| BitVec.ofInt 32 (IntKind.u32.wrap (IntKind.u32.wrap p * 2 ^ min (IntKind.u64.wrap (16 - a - b)).toNat 32))).toNat : Int))), AV.int IntKind.u16 (IntKind.u16.wrap (IntKind.u32.wrap (↑(BitVec.ofInt 32 (IntKind.u32.wrap (↑(BitVec.ofInt 32 (IntKind.u32.wrap (IntKind.u32.wrap i * 2 ^ min (IntKind.u64.wrap (IntKind.i64.wrap (16 - a))).toNat 32)) ||| BitVec.ofInt 32 (IntKind.u32.wrap (IntKind.u32.wrap p * 2 ^ min (IntKind.u64.wrap (16 - a - b)).toNat 32))).toNat : Int)) ||| BitVec.ofInt 32 (IntKind.u32.wrap (IntKind.u32.wrap (1 * 2 ^ min (IntKind.u64.wrap (16 - a - b)).toNat 32) - 1))).toNat : Int)))], AO.cells 2 [AV.int IntKind.u16 (IntKind.u16.wrap (IntKind.u32.wrap (↑(BitVec.ofInt 32 (IntKind.u32.wrap (IntKind.u32.wrap i * 2 ^ min (IntKind.u64.wrap (IntKind.i64.wrap (16 - a))).toNat 32)) ||| BitVec.ofInt 32 (IntKind.u32.wrap (IntKind.u32.wrap p * 2 ^ min (IntKind.u64.wrap (16 - a - b)).toNat 32))).toNat : Int))), AV.int IntKind.u16 (IntKind.u16.wrap (IntKind.u32.wrap (↑(BitVec.ofInt 32 (IntKind.u32.wrap (↑(BitVec.ofInt 32 (IntKind.u32.wrap (IntKind.u32.wrap i * 2 ^ min (IntKind.u64.wrap (IntKind.i64.wrap (16 - a))).toNat 32)) ||| BitVec.ofInt 32 (IntKind.u32.wrap (IntKind.u32.wrap p * 2 ^ min (IntKind.u64.wrap (16 - a - b)).toNat 32))).toNat : Int)) ||| BitVec.ofInt 32 (IntKind.u32.wrap (IntKind.u32.wrap (1 * 2 ^ min (IntKind.u64.wrap (16 - a - b)).toNat 32) - 1))).toNat : Int)))]])) none)) none))) (aIf (decide (IntKind.u64.wrap (IntKind.i64.wrap (16 - a)) < 0)) none (aIf (Pl.psetB a b p && Pl.right a b p) (aIf (decide (IntKind.u64.wrap (16 - a - b) < 0)) none (aIf (Pl.psetB a b p && Pl.right a b p) (aIf (decide (IntKind.u64.wrap (16 - a - b) < 0)) none (k AExit.normal [(0, AV.yld 2), (1, AV.fp [AV.int IntKind.i64 a, AV.int IntKind.i64 b, AV.int IntKind.u16 p]), (7, AV.int IntKind.i64 n), (8, AV.int IntKind.i64 (IntKind.i64.wrap (i + 1)))] [AO.cells 0 [AV.int IntKind.i64 a1, AV.int IntKind.i64 b1, AV.int IntKind.u16 p1], AO.cells 0 [AV.sl 4 2 0 1 2], AO.loop LoopState.ready none 44 [(2, AV.fs 0 [] SF.nil), (3, AV.int IntKind.i64 0), (5, AV.ptr 1 0 0), (14, AV.fn (Fn.func 68) [] [AV.fp [AV.int IntKind.i64 a2, AV.int IntKind.i64 b2, AV.int IntKind.u16 p2]]), (15, AV.junk)] 490007, AO.cells 0 [AV.int IntKind.u16 (IntKind.u16.wrap (IntKind.u32.wrap (↑(BitVec.ofInt 32 (IntKind.u32.wrap (IntKind.u32.wrap i * 2 ^ min (IntKind.u64.wrap (IntKind.i64.wrap (16 - a))).toNat 32)) ||| BitVec.ofInt 32 (IntKind.u32.wrap (IntKind.u32.wrap p * 2 ^ min (IntKind.u64.wrap (16 - a - b)).toNat 32))).toNat : Int))), AV.int IntKind.u16 (IntKind.u16.wrap (IntKind.u32.wrap (↑(BitVec.ofInt 32 (IntKind.u32.wrap (↑(BitVec.ofInt 32 (IntKind.u32.wrap (IntKind.u32.wrap i * 2 ^ min (IntKind.u64.wrap (IntKind.i64.wrap (16 - a))).toNat 32)) ||| BitVec.ofInt 32 (IntKind.u32.wrap (IntKind.u32.wrap p * 2 ^ min (IntKind.u64.wrap (16 - a - b)).toNat 32))).toNat : Int)) ||| BitVec.ofInt 32 (IntKind.u32.wrap (IntKind.u32.wrap (1 * 2 ^ min (IntKind.u64.wrap (16 - a - b)).toNat 32) - 1))).toNat : Int)))], AO.cells 2 [AV.int IntKind.u16 (IntKind.u16.wrap (IntKind.u32.wrap (↑(BitVec.ofInt 32 (IntKind.u32.wrap (IntKind.u32.wrap i * 2 ^ min (IntKind.u64.wrap (IntKind.i64.wrap (16 - a))).toNat 32)) ||| BitVec.ofInt 32 (IntKind.u32.wrap (IntKind.u32.wrap p * 2 ^ min (IntKind.u64.wrap (16 - a - b)).toNat 32))).toNat : Int))), AV.int IntKind.u16 (IntKind.u16.wrap (IntKind.u32.wrap (↑(BitVec.ofInt 32 (IntKind.u32.wrap (↑(BitVec.ofInt 32 (IntKind.u32.wrap (IntKind.u32.wrap i * 2 ^ min (IntKind.u64.wrap (IntKind.i64.wrap (16 - a))).toNat 32)) ||| BitVec.ofInt 32 (IntKind.u32.wrap (IntKind.u32.wrap p * 2 ^ min (IntKind.u64.wrap (16 - a - b)).toNat 32))).toNat : Int)) ||| BitVec.ofInt 32 (IntKind.u32.wrap (IntKind.u32.wrap (1 * 2 ^ min (IntKind.u64.wrap (16 - a - b)).toNat 32) - 1))).toNat : Int)))]])) none)) none))) (k (AExit.exit 0) [(0, AV.yld 2), (1, AV.fp [AV.int IntKind.i64 a, AV.int IntKind.i64 b, AV.int IntKind.u16 p]), (7, AV.int IntKind.i64 n), (8, AV.int IntKind.i64 i), (9, AV.bool (decide (i < n)))] [AO.cells 0 [AV.int IntKind.i64 a1, AV.int IntKind.i64 b1, AV.int IntKind.u16 p1], AO.cells 0 [AV.fs 2 [] SF.nil], AO.loop LoopState.ready none 44 [(2, AV.fs 0 [] SF.nil), (3, AV.int IntKind.i64 0), (5, AV.ptr 1 0 0), (14, AV.fn (Fn.func 68) [] [AV.fp [AV.int IntKind.i64 a2, AV.int IntKind.i64 b2, AV.int IntKind.u16 p2]]), (15, AV.junk)] 490007]) := by kernel_rfl
theorem M68y49_1b (a b p n i a1 b1 p1 : Int) (v l : Nat) (a2 b2 p2 x y : Int) (w : Nat) (cs : List AV) (k : KC) : headedK C68y49 (loopB Try.f68 0) [(0, .yld 2), (1, .fp [.int .i64 a, .int .i64 b, .int .u16 p]), (7, .int .i64 n), (8, .int .i64 i)] [.cells 0 [.int .i64 a1, .int .i64 b1, .int .u16 p1], .cells 0 [.sl 4 v 0 l 2], .loop .ready none 44 [(2, .fs 0 [] .nil), (3, .int .i64 0), (5, .ptr 1 0 0), (14, .fn (.func 68) [] [.fp [.int .i64 a2, .int .i64 b2, .int .u16 p2]]), (15, .junk)] 490007, .cells 0 [.int .u16 x, .int .u16 y], .cells w cs] k =
  aIf (decide (i < n)) (aIf (i == 0) (aIf (decide (a > 0)) (k AExit.normal [(0, AV.yld 2), (1, AV.fp [AV.int IntKind.i64 a, AV.int IntKind.i64 b, AV.int IntKind.u16 p]), (7, AV.int IntKind.i64 n), (8, AV.int IntKind.i64 (IntKind.i64.wrap (i + 1)))] [AO.cells 0 [AV.int IntKind.i64 a1, AV.int IntKind.i64 b1, AV.int IntKind.u16 p1], AO.cells 0 [AV.sl 4 v 0 l 2], AO.loop LoopState.ready none 44 [(2, AV.fs 0 [] SF.nil), (3, AV.int IntKind.i64 0), (5, AV.ptr 1 0 0), (14, AV.fn (Fn.func 68) [] [AV.fp [AV.int IntKind.i64 a2, AV.int IntKind.i64 b2, AV.int IntKind.u16 p2]]), (15, AV.junk)] 490007, AO.cells 0 [AV.int IntKind.u16 x, AV.int IntKind.u16 y], AO.cells w cs]) (aIf (decide (IntKind.u64.wrap (IntKind.i64.wrap (16 - a)) < 0)) none (aIf (Pl.psetB a b p && Pl.right a b p) (aIf (decide (IntKind.u64.wrap (16 - a - b) < 0)) none (aIf (Pl.psetB a b p && Pl.right a b p) (aIf (decide (IntKind.u64.wrap (16 - a - b) < 0)) none (aIf (decide ((↑l : Int) > 0)) (aIf (decide (0 ≤ IntKind.i64.wrap ((↑l : Int) - 1))) (aIf (decide (IntKind.i64.wrap ((↑l : Int) - 1) < (↑l : Int))) (aIf (w == v) (aIf (decide (0 + (IntKind.i64.wrap ((↑l : Int) - 1)).toNat * 2 + 1 + 1 ≤ cs.length)) (aIf ((cs.getD (0 + (IntKind.i64.wrap ((↑l : Int) - 1)).toNat * 2 + 1) AV.junk).isInt IntKind.u16) (aIf (IntKind.u16.wrap ((cs.getD (0 + (IntKind.i64.wrap ((↑l : Int) - 1)).toNat * 2 + 1) AV.junk).toInt + 1) == IntKind.u16.wrap (IntKind.u32.wrap (↑(BitVec.ofInt 32 (IntKind.u32.wrap (IntKind.u32.wrap i * 2 ^ min (IntKind.u64.wrap (IntKind.i64.wrap (16 - a))).toNat 32)) ||| BitVec.ofInt 32 (IntKind.u32.wrap (IntKind.u32.wrap p * 2 ^ min (IntKind.u64.wrap (16 - a - b)).toNat 32))).toNat : Int))) (aIf (decide (0 ≤ IntKind.i64.wrap ((↑l : Int) - 1))) (aIf (decide (IntKind.i64.wrap ((↑l : Int) - 1) < (↑l : Int))) (aIf (w == v) (aIf (decide (0 + (IntKind.i64.wrap ((↑l : Int) - 1)).toNat * 2 + 1 + 1 ≤ cs.length)) (aIf (true && (true && (true && (true && (true && (AV.uptoL 5 (cs.set (0 + (IntKind.i64.wrap ((↑l : Int) - 1)).toNat * 2 + 1) (AV.int IntKind.u16 (IntKind.u16.wrap (IntKind.u32.wrap (↑(BitVec.ofInt 32 (IntKind.u32.wrap (↑(BitVec.ofInt 32 (IntKind.u32.wrap (IntKind.u32.wrap i * 2 ^ min (IntKind.u64.wrap (IntKind.i64.wrap (16 - a))).toNat 32)) ||| BitVec.ofInt 32 (IntKind.u32.wrap (IntKind.u32.wrap p * 2 ^ min (IntKind.u64.wrap (16 - a - b)).toNat 32))).toNat : Int)) ||| BitVec.ofInt 32 (IntKind.u32.wrap (IntKind.u32.wrap (1 * 2 ^ min (IntKind.u64.wrap (16 - a - b)).toNat 32) - 1))).toNat : Int))))) && true)))))) (k AExit.normal [(0, AV.yld 2), (1, AV.fp [AV.int IntKind.i64 a, AV.int IntKind.i64 b, AV.int IntKind.u16 p]), (7, AV.int IntKind.i64 n), (8, AV.int IntKind.i64 (IntKind.i64.wrap (i + 1)))] [AO.cells 0 [AV.int IntKind.i64 a1, AV.int IntKind.i64 b1, AV.int IntKind.u16 p1], AO.cells 0 [AV.sl 4 v 0 l 2], AO.loop LoopState.ready none 44 [(2, AV.fs 0 [] SF.nil), (3, AV.int IntKind.i64 0), (5, AV.ptr 1 0 0), (14, AV.fn (Fn.func 68) [] [AV.fp [AV.int IntKind.i64 a2, AV.int IntKind.i64 b2, AV.int IntKind.u16 p2]]), (15, AV.junk)] 490007, AO.cells 0 [AV.int IntKind.u16 x, AV.int IntKind.u16 y], AO.cells v (cs.set (0 + (IntKind.i64.wrap ((↑l : Int) - 1)).toNat * 2 + 1) (AV.int IntKind.u16 (IntKind.u16.wrap (IntKind.u32.wrap (↑(BitVec.ofInt 32 (IntKind.u32.wrap (↑(BitVec.ofInt 32 (IntKind.u32.wrap (IntKind.u32.wrap i * 2 ^ min (IntKind.u64.wrap (IntKind.i64.wrap (16 - a))).toNat 32)) ||| BitVec.ofInt 32 (IntKind.u32.wrap (IntKind.u32.wrap p * 2 ^ min (IntKind.u64.wrap (16 - a - b)).toNat 32))).toNat : Int)) ||| BitVec.ofInt 32 (IntKind.u32.wrap (IntKind.u32.wrap (1 * 2 ^ min (IntKind.u64.wrap (16 - a - b)).toNat 32) - 1))).toNat : Int)))))]) (k AExit.normal [(0, AV.yld 2), (1, AV.fp [AV.int IntKind.i64 a, AV.int IntKind.i64 b, AV.int IntKind.u16 p]), (7, AV.int IntKind.i64 n), (8, AV.int IntKind.i64 (IntKind.i64.wrap (i + 1)))] [AO.cells 0 [AV.int IntKind.i64 a1, AV.int IntKind.i64 b1, AV.int IntKind.u16 p1], AO.cells 0 [AV.sl 4 v 0 l 2], AO.loop LoopState.ready none 44 [(2, AV.fs 0 [] SF.nil), (3, AV.int IntKind.i64 0), (5, AV.ptr 1 0 0), (14, AV.fn (Fn.func 68) [] [AV.fp [AV.int IntKind.i64 a2, AV.int IntKind.i64 b2, AV.int IntKind.u16 p2]]), (15, AV.junk)] 490007, AO.cells 0 [AV.int IntKind.u16 x, AV.int IntKind.u16 y], AO.cells v (cs.set (0 + (IntKind.i64.wrap ((↑l : Int) - 1)).toNat * 2 + 1) (AV.int IntKind.u16 (IntKind.u16.wrap (IntKind.u32.wrap (↑(BitVec.ofInt 32 (IntKind.u32.wrap (↑(BitVec.ofInt 32 (IntKind.u32.wrap (IntKind.u32.wrap i * 2 ^ min (IntKind.u64.wrap (IntKind.i64.wrap (16 - a))).toNat 32)) ||| BitVec.ofInt 32 (IntKind.u32.wrap (IntKind.u32.wrap p * 2 ^ min (IntKind.u64.wrap (16 - a - b)).toNat 32))).toNat : Int)) ||| BitVec.ofInt 32 (IntKind.u32.wrap (IntKind.u32.wrap (1 * 2 ^ min (IntKind.u64.wrap (16 - a - b)).toNat 32) - 1))).toNat : Int))))), AO.cells 0 [AV.int IntKind.u16 (IntKind.u16.wrap (IntKind.u32.wrap (↑(BitVec.ofInt 32 (IntKind.u32.wrap (IntKind.u32.wrap i * 2 ^ min (IntKind.u64.wrap (IntKind.i64.wrap (16 - a))).toNat 32)) ||| BitVec.ofInt 32 (IntKind.u32.wrap (IntKind.u32.wrap p * 2 ^ min (IntKind.u64.wrap (16 - a - b)).toNat 32))).toNat : Int))), AV.int IntKind.u16 (IntKind.u16.wrap (IntKind.u32.wrap (↑(BitVec.ofInt 32 (IntKind.u32.wrap (↑(BitVec.ofInt 32 (IntKind.u32.wrap (IntKind.u32.wrap i * 2 ^ min (IntKind.u64.wrap (IntKind.i64.wrap (16 - a))).toNat 32)) ||| BitVec.ofInt 32 (IntKind.u32.wrap (IntKind.u32.wrap p * 2 ^ min (IntKind.u64.wrap (16 - a - b)).toNat 32))).toNat : Int)) ||| BitVec.ofInt 32 (IntKind.u32.wrap (IntKind.u32.wrap (1 * 2 ^ min (IntKind.u64.wrap (16 - a - b)).toNat 32) - 1))).toNat : Int)))]])) none) none) none) none) (aIf (v == 0) none (aIf (w == v) (aIf (((l + 1) * 4).ble 140737488355328) (aIf (true && (true && (true && (true && (true && (AV.uptoL 5 (List.take (l * 2) cs ++ [AV.int IntKind.u16 (IntKind.u16.wrap (IntKind.u32.wrap (↑(BitVec.ofInt 32 (IntKind.u32.wrap (IntKind.u32.wrap i * 2 ^ min (IntKind.u64.wrap (IntKind.i64.wrap (16 - a))).toNat 32)) ||| BitVec.ofInt 32 (IntKind.u32.wrap (IntKind.u32.wrap p * 2 ^ min (IntKind.u64.wrap (16 - a - b)).toNat 32))).toNat : Int))), AV.int IntKind.u16 (IntKind.u16.wrap (IntKind.u32.wrap (↑(BitVec.ofInt 32 (IntKind.u32.wrap (↑(BitVec.ofInt 32 (IntKind.u32.wrap (IntKind.u32.wrap i * 2 ^ min (IntKind.u64.wrap (IntKind.i64.wrap (16 - a))).toNat 32)) ||| BitVec.ofInt 32 (IntKind.u32.wrap (IntKind.u32.wrap p * 2 ^ min (IntKind.u64.wrap (16 - a - b)).toNat 32))).toNat : Int)) ||| BitVec.ofInt 32 (IntKind.u32.wrap (IntKind.u32.wrap (1 * 2 ^ min (IntKind.u64.wrap (16 - a - b)).toNat 32) - 1))).toNat : Int)))] ++ List.drop (l * 2 + 2) cs) && true)))))) (k AExit.normal [(0, AV.yld 2), (1, AV.fp [AV.int IntKind.i64 a, AV.int IntKind.i64 b, AV.int IntKind.u16 p]), (7, AV.int IntKind.i64 n), (8, AV.int IntKind.i64 (IntKind.i64.wrap (i + 1)))] [AO.cells 0 [AV.int IntKind.i64 a1, AV.int IntKind.i64 b1, AV.int IntKind.u16 p1], AO.cells 0 [AV.sl 4 (max v ((l + 1) * 2)) 0 (l + 1) 2], AO.loop LoopState.ready none 44 [(2, AV.fs 0 [] SF.nil), (3, AV.int IntKind.i64 0), (5, AV.ptr 1 0 0), (14, AV.fn (Fn.func 68) [] [AV.fp [AV.int IntKind.i64 a2, AV.int IntKind.i64 b2, AV.int IntKind.u16 p2]]), (15, AV.junk)] 490007, AO.cells 0 [AV.int IntKind.u16 x, AV.int IntKind.u16 y], AO.cells (max v ((l + 1) * 2)) (List.take (l * 2) cs ++ [AV.int IntKind.u16 (IntKind.u16.wrap (IntKind.u32.wrap (↑(BitVec.ofInt 32 (IntKind.u32.wrap (IntKind.u32.wrap i * 2 ^ min (IntKind.u64.wrap (IntKind.i64.wrap (16 - a))).toNat 32)) ||| BitVec.ofInt 32 (IntKind.u32.wrap (IntKind.u32.wrap p * 2 ^ min (IntKind.u64.wrap (16 - a - b)).toNat 32))).toNat : Int))), AV.int IntKind.u16 (IntKind.u16.wrap (IntKind.u32.wrap (↑(BitVec.ofInt 32 (IntKind.u32.wrap (↑(BitVec.ofInt 32 (IntKind.u32.wrap (IntKind.u32.wrap i * 2 ^ min (IntKind.u64.wrap (IntKind.i64.wrap (16 - a))).toNat 32)) ||| BitVec.ofInt 32 (IntKind.u32.wrap (IntKind.u32.wrap p * 2 ^ min (IntKind.u64.wrap (16 - a - b)).toNat 32))).toNat : Int)) ||| BitVec.ofInt 32 (IntKind.u32.wrap (IntKind.u32.wrap (1 * 2 ^ min (IntKind.u64.wrap (16 - a - b)).toNat 32) - 1))).toNat : Int)))] ++ List.drop (l * 2 + 2) cs)]) (k AExit.normal [(0, AV.yld 2), (1, AV.fp [AV.int IntKind.i64 a, AV.int IntKind.i64 b, AV.int IntKind.u16 p]), (7, AV.int IntKind.i64 n), (8, AV.int IntKind.i64 (IntKind.i64.wrap (i + 1)))] [AO.cells 0 [AV.int IntKind.i64 a1, AV.int IntKind.i64 b1, AV.int IntKind.u16 p1], AO.cells 0 [AV.sl 4 (max v ((l + 1) * 2)) 0 (l + 1) 2], AO.loop LoopState.ready none 44 [(2, AV.fs 0 [] SF.nil), (3, AV.int IntKind.i64 0), (5, AV.ptr 1 0 0), (14, AV.fn (Fn.func 68) [] [AV.fp [AV.int IntKind.i64 a2, AV.int IntKind.i64 b2, AV.int IntKind.u16 p2]]), (15, AV.junk)] 490007, AO.cells 0 [AV.int IntKind.u16 x, AV.int IntKind.u16 y], AO.cells (max v ((l + 1) * 2)) (List.take (l * 2) cs ++ [AV.int IntKind.u16 (IntKind.u16.wrap (IntKind.u32.wrap (↑(BitVec.ofInt 32 (IntKind.u32.wrap (IntKind.u32.wrap i * 2 ^ min (IntKind.u64.wrap (IntKind.i64.wrap (16 - a))).toNat 32)) ||| BitVec.ofInt 32 (IntKind.u32.wrap (IntKind.u32.wrap p * 2 ^ min (IntKind.u64.wrap (16 - a - b)).toNat 32))).toNat : Int))), AV.int IntKind.u16 (IntKind.u16.wrap (IntKind.u32.wrap (↑(BitVec.ofInt 32 (IntKind.u32.wrap (↑(BitVec.ofInt 32 (IntKind.u32.wrap (IntKind.u32.wrap i * 2 ^ min (IntKind.u64.wrap (IntKind.i64.wrap (16 - a))).toNat 32)) ||| BitVec.ofInt 32 (IntKind.u32.wrap (IntKind.u32.wrap p * 2 ^ min (IntKind.u64.wrap (16 - a - b)).toNat 32))).toNat : Int)) ||| BitVec.ofInt 32 (IntKind.u32.wrap (IntKind.u32.wrap (1 * 2 ^ min (IntKind.u64.wrap (16 - a - b)).toNat 32) - 1))).toNat : Int)))] ++ List.drop (l * 2 + 2) cs), AO.cells 0 [AV.int IntKind.u16 (IntKind.u16.wrap (IntKind.u32.wrap (↑(BitVec.ofInt 32 (IntKind.u32.wrap (IntKind.u32.wrap i * 2 ^ min (IntKind.u64.wrap (IntKind.i64.wrap (16 - a))).toNat 32)) ||| BitVec.ofInt 32 (IntKind.u32.wrap (IntKind.u32.wrap p * 2 ^ min (IntKind.u64.wrap (16 - a - b)).toNat 32))).toNat : Int))), AV.int IntKind.u16 (IntKind.u16.wrap (IntKind.u32.wrap (↑(BitVec.ofInt 32 (IntKind.u32.wrap (↑(BitVec.ofInt 32 (IntKind.u32.wrap (IntKind.u32.wrap i * 2 ^ min (IntKind.u64.wrap (IntKind.i64.wrap (16 - a))).toNat 32)) ||| BitVec.ofInt 32 (IntKind.u32.wrap (IntKind.u32.wrap p * 2 ^ min (IntKind.u64.wrap (16 - a - b)).toNat 32))).toNat : Int)) ||| BitVec.ofInt 32 (IntKind.u32.wrap (IntKind.u32.wrap (1 * 2 ^ min (IntKind.u64.wrap (16 - a - b)).toNat 32) - 1))).toNat : Int)))]])) none) none))) none) none) none) none) none) (aIf (v == 0) none (aIf (w == v) (aIf (((l + 1) * 4).ble 140737488355328) (aIf (true && (true && (true && (true && (true && (AV.uptoL 5 (List.take (l * 2) cs ++ [AV.int IntKind.u16 (IntKind.u16.wrap (IntKind.u32.wrap (↑(BitVec.ofInt 32 (IntKind.u32.wrap (IntKind.u32.wrap i * 2 ^ min (IntKind.u64.wrap (IntKind.i64.wrap (16 - a))).toNat 32)) ||| BitVec.ofInt 32 (IntKind.u32.wrap (IntKind.u32.wrap p * 2 ^ min (IntKind.u64.wrap (16 - a - b)).toNat 32))).toNat : Int))), AV.int IntKind.u16 (IntKind.u16.wrap (IntKind.u32.wrap (↑(BitVec.ofInt 32 (IntKind.u32.wrap (↑(BitVec.ofInt 32 (IntKind.u32.wrap (IntKind.u32.wrap i * 2 ^ min (IntKind.u64.wrap (IntKind.i64.wrap (16 - a))).toNat 32)) ||| BitVec.ofInt 32 (IntKind.u32.wrap (IntKind.u32.wrap p * 2 ^ min (IntKind.u64.wrap (16 - a - b)).toNat 32))).toNat : Int)) ||| BitVec.ofInt 32 (IntKind.u32.wrap (IntKind.u32.wrap (1 * 2 ^ min (IntKind.u64.wrap (16 - a - b)).toNat 32) - 1))).toNat : Int)))] ++ List.drop (l * 2 + 2) cs) && true)))))) (k AExit.normal [(0, AV.yld 2), (1, AV.fp [AV.int IntKind.i64 a, AV.int IntKind.i64 b, AV.int IntKind.u16 p]), (7, AV.int IntKind.i64 n), (8, AV.int IntKind.i64 (IntKind.i64.wrap (i + 1)))] [AO.cells 0 [AV.int IntKind.i64 a1, AV.int IntKind.i64 b1, AV.int IntKind.u16 p1], AO.cells 0 [AV.sl 4 (max v ((l + 1) * 2)) 0 (l + 1) 2], AO.loop LoopState.ready none 44 [(2, AV.fs 0 [] SF.nil), (3, AV.int IntKind.i64 0), (5, AV.ptr 1 0 0), (14, AV.fn (Fn.func 68) [] [AV.fp [AV.int IntKind.i64 a2, AV.int IntKind.i64 b2, AV.int IntKind.u16 p2]]), (15, AV.junk)] 490007, AO.cells 0 [AV.int IntKind.u16 x, AV.int IntKind.u16 y], AO.cells (max v ((l + 1) * 2)) (List.take (l * 2) cs ++ [AV.int IntKind.u16 (IntKind.u16.wrap (IntKind.u32.wrap (↑(BitVec.ofInt 32 (IntKind.u32.wrap (IntKind.u32.wrap i * 2 ^ min (IntKind.u64.wrap (IntKind.i64.wrap (16 - a))).toNat 32)) ||| BitVec.ofInt 32 (IntKind.u32.wrap (IntKind.u32.wrap p * 2 ^ min (IntKind.u64.wrap (16 - a - b)).toNat 32))).toNat : Int))), AV.int IntKind.u16 (IntKind.u16.wrap (IntKind.u32.wrap (↑(BitVec.ofInt 32 (IntKind.u32.wrap (↑(BitVec.ofInt 32 (IntKind.u32.wrap (IntKind.u32.wrap i * 2 ^ min (IntKind.u64.wrap (IntKind.i64.wrap (16 - a))).toNat 32)) ||| BitVec.ofInt 32 (IntKind.u32.wrap (IntKind.u32.wrap p * 2 ^ min (IntKind.u64.wrap (16 - a - b)).toNat 32))).toNat : Int)) ||| BitVec.ofInt 32 (IntKind.u32.wrap (IntKind.u32.wrap (1 * 2 ^ min (IntKind.u64.wrap (16 - a - b)).toNat 32) - 1))).toNat : Int)))] ++ List.drop (l * 2 + 2) cs)]) (k AExit.normal [(0, AV.yld 2), (1, AV.fp [AV.int IntKind.i64 a, AV.int IntKind.i64 b, AV.int IntKind.u16 p]), (7, AV.int IntKind.i64 n), (8, AV.int IntKind.i64 (IntKind.i64.wrap (i + 1)))] [AO.cells 0 [AV.int IntKind.i64 a1, AV.int IntKind.i64 b1, AV.int IntKind.u16 p1], AO.cells 0 [AV.sl 4 (max v ((l + 1) * 2)) 0 (l + 1) 2], AO.loop LoopState.ready none 44 [(2, AV.fs 0 [] SF.nil), (3, AV.int IntKind.i64 0), (5, AV.ptr 1 0 0), (14, AV.fn (Fn.func 68) [] [AV.fp [AV.int IntKind.i64 a2, AV.int IntKind.i64 b2, AV.int IntKind.u16 p2]]), (15, AV.junk)] 490007, AO.cells 0 [AV.int IntKind.u16 x, AV.int IntKind.u16 y], AO.cells (max v ((l + 1) * 2)) (List.take (l * 2) cs ++ [AV.int IntKind.u16 (IntKind.u16.wrap (IntKind.u32.wrap (↑(BitVec.ofInt 32 (IntKind.u32.wrap (IntKind.u32.wrap i * 2 ^ min (IntKind.u64.wrap (IntKind.i64.wrap (16 - a))).toNat 32)) ||| BitVec.ofInt 32 (IntKind.u32.wrap (IntKind.u32.wrap p * 2 ^ min (IntKind.u64.wrap (16 - a - b)).toNat 32))).toNat : Int))), AV.int IntKind.u16 (IntKind.u16.wrap (IntKind.u32.wrap (↑(BitVec.ofInt 32 (IntKind.u32.wrap (↑(BitVec.ofInt 32 (IntKind.u32.wrap (IntKind.u32.wrap i * 2 ^ min (IntKind.u64.wrap (IntKind.i64.wrap (16 - a))).toNat 32)) ||| BitVec.ofInt 32 (IntKind.u32.wrap (IntKind.u32.wrap p * 2 ^ min (IntKind.u64.wrap (16 - a - b)).toNat 32))).toNat : Int)) ||| BitVec.ofInt 32 (IntKind.u32.wrap (IntKind.u32.wrap (1 * 2 ^ min (IntKind.u64.wrap (16 - a - b)).toNat 32) - 1))).toNat : Int)))] ++ List.drop (l * 2 + 2) cs), AO.cells 0 [AV.int IntKind.u16 (IntKind.u16.wrap (IntKind.u32.wrap (↑(BitVec.ofInt 32 (IntKind.u32.wrap (IntKind.u32.wrap i * 2 ^ min (IntKind.u64.wrap (IntKind.i64.wrap (16 - a))).toNat 32)) ||| BitVec.ofInt 32 (IntKind.u32.wrap (IntKind.u32.wrap p * 2 ^ min (IntKind.u64.wrap (16 - a - b)).toNat 32))).toNat : Int))), AV.int IntKind.u16 (IntKind.u16.wrap (IntKind.u32.wrap (↑(BitVec.ofInt 32 (IntKind.u32.wrap (↑(BitVec.ofInt 32 (IntKind.u32.wrap (IntKind.u32.wrap i * 2 ^ min (IntKind.u64.wrap (IntKind.i64.wrap (16 - a))).toNat 32)) ||| BitVec.ofInt 32 (IntKind.u32.wrap (IntKind.u32.wrap p * 2 ^ min (IntKind.u64.wrap (16 - a - b)).toNat 32))).toNat : Int)) ||| BitVec.ofInt 32 (IntKind.u32.wrap (IntKind.u32.wrap (1 * 2 ^ min (IntKind.u64.wrap (16 - a - b)).toNat 32) - 1))).toNat : Int)))]])) none) none)))) none)) none))) (aIf (decide (IntKind.u64.wrap (IntKind.i64.wrap (16 - a)) < 0)) none (aIf (Pl.psetB a b p && Pl.right a b p) (aIf (decide (IntKind.u64.wrap (16 - a - b) < 0)) none (aIf (Pl.psetB a b p && Pl.right a b p) (aIf (decide (IntKind.u64.wrap (16 - a - b) < 0)) none (aIf (decide ((↑l : Int) > 0)) (aIf (decide (0 ≤ IntKind.i64.wrap ((↑l : Int) - 1))) (aIf (decide (IntKind.i64.wrap ((↑l : Int) - 1) < (↑l : Int))) (aIf (w == v) (aIf (decide (0 + (IntKind.i64.wrap ((↑l : Int) - 1)).toNat * 2 + 1 + 1 ≤ cs.length)) (aIf ((cs.getD (0 + (IntKind.i64.wrap ((↑l : Int) - 1)).toNat * 2 + 1) AV.junk).isInt IntKind.u16) (aIf (IntKind.u16.wrap ((cs.getD (0 + (IntKind.i64.wrap ((↑l : Int) - 1)).toNat * 2 + 1) AV.junk).toInt + 1) == IntKind.u16.wrap (IntKind.u32.wrap (↑(BitVec.ofInt 32 (IntKind.u32.wrap (IntKind.u32.wrap i * 2 ^ min (IntKind.u64.wrap (IntKind.i64.wrap (16 - a))).toNat 32)) ||| BitVec.ofInt 32 (IntKind.u32.wrap (IntKind.u32.wrap p * 2 ^ min (IntKind.u64.wrap (16 - a - b)).toNat 32))).toNat : Int))) (aIf (decide (0 ≤ IntKind.i64.wrap ((↑l : Int) - 1))) (aIf (decide (IntKind.i64.wrap ((↑l : Int) - 1) < (↑l : Int))) (aIf (w == v) (aIf (decide (0 + (IntKind.i64.wrap ((↑l : Int) - 1)).toNat * 2 + 1 + 1 ≤ cs.length)) (aIf (true && (true && (true && (true && (true && (AV.uptoL 5 (cs.set (0 + (IntKind.i64.wrap ((↑l : Int) - 1)).toNat * 2 + 1) (AV.int IntKind.u16 (IntKind.u16.wrap (IntKind.u32.wrap (↑(BitVec.ofInt 32 (IntKind.u32.wrap (↑(BitVec.ofInt 32 (IntKind.u32.wrap (IntKind.u32.wrap i * 2 ^ min (IntKind.u64.wrap (IntKind.i64.wrap (16 - a))).toNat 32)) ||| BitVec.ofInt 32 (IntKind.u32.wrap (IntKind.u32.wrap p * 2 ^ min (IntKind.u64.wrap (16 - a - b)).toNat 32))).toNat : Int)) ||| BitVec.ofInt 32 (IntKind.u32.wrap (IntKind.u32.wrap (1 * 2 ^ min (IntKind.u64.wrap (16 - a - b)).toNat 32) - 1))).toNat : Int))))) && true)))))) (k AExit.normal [(0, AV.yld 2), (1, AV.fp [AV.int IntKind.i64 a, AV.int IntKind.i64 b, AV.int IntKind.u16 p]), (7, AV.int IntKind.i64 n), (8, AV.int IntKind.i64 (IntKind.i64.wrap (i + 1)))] [AO.cells 0 [AV.int IntKind.i64 a1, AV.int IntKind.i64 b1, AV.int IntKind.u16 p1], AO.cells 0 [AV.sl 4 v 0 l 2], AO.loop LoopState.ready none 44 [(2, AV.fs 0 [] SF.nil), (3, AV.int IntKind.i64 0), (5, AV.ptr 1 0 0), (14, AV.fn (Fn.func 68) [] [AV.fp [AV.int IntKind.i64 a2, AV.int IntKind.i64 b2, AV.int IntKind.u16 p2]]), (15, AV.junk)] 490007, AO.cells 0 [AV.int IntKind.u16 x, AV.int IntKind.u16 y], AO.cells v (cs.set (0 + (IntKind.i64.wrap ((↑l : Int) - 1)).toNat * 2 + 1) (AV.int IntKind.u16 (IntKind.u16.wrap (IntKind.u32.wrap (↑(BitVec.ofInt 32 (IntKind.u32.wrap (↑(BitVec.ofInt 32 (IntKind.u32.wrap (IntKind.u32.wrap i * 2 ^ min (IntKind.u64.wrap (IntKind.i64.wrap (16 - a))).toNat 32)) ||| BitVec.ofInt 32 (IntKind.u32.wrap (IntKind.u32.wrap p * 2 ^ min (IntKind.u64.wrap (16 - a - b)).toNat 32))).toNat : Int)) ||| BitVec.ofInt 32 (IntKind.u32.wrap (IntKind.u32.wrap (1 * 2 ^ min (IntKind.u64.wrap (16 - a - b)).toNat 32) - 1))).toNat : Int)))))]) (k AExit.normal [(0, AV.yld 2), (1, AV.fp [AV.int IntKind.i64 a, AV.int IntKind.i64 b, AV.int IntKind.u16 p]), (7, AV.int IntKind.i64 n), (8, AV.int IntKind.i64 (IntKind.i64.wrap (i + 1)))] [AO.cells 0 [AV.int IntKind.i64 a1, AV.int IntKind.i64 b1, AV.int IntKind.u16 p1], AO.cells 0 [AV.sl 4 v 0 l 2], AO.loop LoopState.ready none 44 [(2, AV.fs 0 [] SF.nil), (3, AV.int IntKind.i64 0), (5, AV.ptr 1 0 0), (14, AV.fn (Fn.func 68) [] [AV.fp [AV.int IntKind.i64 a2, AV.int IntKind.i64 b2, AV.int IntKind.u16 p2]]), (15, AV.junk)] 490007, AO.cells 0 [AV.int IntKind.u16 x, AV.int IntKind.u16 y], AO.cells v (cs.set (0 + (IntKind.i64.wrap ((↑l : Int) - 1)).toNat * 2 + 1) (AV.int IntKind.u16 (IntKind.u16.wrap (IntKind.u32.wrap (↑(BitVec.ofInt 32 (IntKind.u32.wrap (↑(BitVec.ofInt 32 (IntKind.u32.wrap (IntKind.u32.wrap i * 2 ^ min (IntKind.u64.wrap (IntKind.i64.wrap (16 - a))).toNat 32)) ||| BitVec.ofInt 32 (IntKind.u32.wrap (IntKind.u32.wrap p * 2 ^ min (IntKind.u64.wrap (16 - a - b)).toNat 32))).toNat : Int)) ||| BitVec.ofInt 32 (IntKind.u32.wrap (IntKind.u32.wrap (1 * 2 ^ min (IntKind.u64.wrap (16 - a - b)).toNat 32) - 1))).toNat : Int))))), AO.cells 0 [AV.int IntKind.u16 (IntKind.u16.wrap (IntKind.u32.wrap (↑(BitVec.ofInt 32 (IntKind.u32.wrap (IntKind.u32.wrap i * 2 ^ min (IntKind.u64.wrap (IntKind.i64.wrap (16 - a))).toNat 32)) ||| BitVec.ofInt 32 (IntKind.u32.wrap (IntKind.u32.wrap p * 2 ^ min (IntKind.u64.wrap (16 - a - b)).toNat 32))).toNat : Int))), AV.int IntKind.u16 (IntKind.u16.wrap (IntKind.u32.wrap (↑(BitVec.ofInt 32 (IntKind.u32.wrap (↑(BitVec.ofInt 32 (IntKind.u32.wrap (IntKind.u32.wrap i * 2 ^ min (IntKind.u64.wrap (IntKind.i64.wrap (16 - a))).toNat 32)) ||| BitVec.ofInt 32 (IntKind.u32.wrap (IntKind.u32.wrap p * 2 ^ min (IntKind.u64.wrap (16 - a - b)).toNat 32))).toNat : Int)) ||| BitVec.ofInt 32 (IntKind.u32.wrap (IntKind.u32.wrap (1 * 2 ^ min (IntKind.u64.wrap (16 - a - b)).toNat 32) - 1))).toNat : Int)))]])) none) none) none) none) (aIf (v == 0) none (aIf (w == v) (aIf (((l + 1) * 4).ble 140737488355328) (aIf (true && (true && (true && (true && (true && (AV.uptoL 5 (List.take (l * 2) cs ++ [AV.int IntKind.u16 (IntKind.u16.wrap (IntKind.u32.wrap (↑(BitVec.ofInt 32 (IntKind.u32.wrap (IntKind.u32.wrap i * 2 ^ min (IntKind.u64.wrap (IntKind.i64.wrap (16 - a))).toNat 32)) ||| BitVec.ofInt 32 (IntKind.u32.wrap (IntKind.u32.wrap p * 2 ^ min (IntKind.u64.wrap (16 - a - b)).toNat 32))).toNat : Int))), AV.int IntKind.u16 (IntKind.u16.wrap (IntKind.u32.wrap (↑(BitVec.ofInt 32 (IntKind.u32.wrap (↑(BitVec.ofInt 32 (IntKind.u32.wrap (IntKind.u32.wrap i * 2 ^ min (IntKind.u64.wrap (IntKind.i64.wrap (16 - a))).toNat 32)) ||| BitVec.ofInt 32 (IntKind.u32.wrap (IntKind.u32.wrap p * 2 ^ min (IntKind.u64.wrap (16 - a - b)).toNat 32))).toNat : Int)) ||| BitVec.ofInt 32 (IntKind.u32.wrap (IntKind.u32.wrap (1 * 2 ^ min (IntKind.u64.wrap (16 - a - b)).toNat 32) - 1))).toNat : Int)))] ++ List.drop (l * 2 + 2) cs) && true)))))) (k AExit.normal [(0, AV.yld 2), (1, AV.fp [AV.int IntKind.i64 a, AV.int IntKind.i64 b, AV.int IntKind.u16 p]), (7, AV.int IntKind.i64 n), (8, AV.int IntKind.i64 (IntKind.i64.wrap (i + 1)))] [AO.cells 0 [AV.int IntKind.i64 a1, AV.int IntKind.i64 b1, AV.int IntKind.u16 p1], AO.cells 0 [AV.sl 4 (max v ((l + 1) * 2)) 0 (l + 1) 2], AO.loop LoopState.ready none 44 [(2, AV.fs 0 [] SF.nil), (3, AV.int IntKind.i64 0), (5, AV.ptr 1 0 0), (14, AV.fn (Fn.func 68) [] [AV.fp [AV.int IntKind.i64 a2, AV.int IntKind.i64 b2, AV.int IntKind.u16 p2]]), (15, AV.junk)] 490007, AO.cells 0 [AV.int IntKind.u16 x, AV.int IntKind.u16 y], AO.cells (max v ((l + 1) * 2)) (List.take (l * 2) cs ++ [AV.int IntKind.u16 (IntKind.u16.wrap (IntKind.u32.wrap (↑(BitVec.ofInt 32 (IntKind.u32.wrap (IntKind.u32.wrap i * 2 ^ min (IntKind.u64.wrap (IntKind.i64.wrap (16 - a))).toNat 32)) ||| BitVec.ofInt 32 (IntKind.u32.wrap (IntKind.u32.wrap p * 2 ^ min (IntKind.u64.wrap (16 - a - b)).toNat 32))).toNat : Int))), AV.int IntKind.u16 (IntKind.u16.wrap (IntKind.u32.wrap (↑(BitVec.ofInt 32 (IntKind.u32.wrap (↑(BitVec.ofInt 32 (IntKind.u32.wrap (IntKind.u32.wrap i * 2 ^ min (IntKind.u64.wrap (IntKind.i64.wrap (16 - a))).toNat 32)) ||| BitVec.ofInt 32 (IntKind.u32.wrap (IntKind.u32.wrap p * 2 ^ min (IntKind.u64.wrap (16 - a - b)).toNat 32))).toNat : Int)) ||| BitVec.ofInt 32 (IntKind.u32.wrap (IntKind.u32.wrap (1 * 2 ^ min (IntKind.u64.wrap (16 - a - b)).toNat 32) - 1))).toNat : Int)))] ++ List.drop (l * 2 + 2) cs)]) (k AExit.normal [(0, AV.yld 2), (1, AV.fp [AV.int IntKind.i64 a, AV.int IntKind.i64 b, AV.int IntKind.u16 p]), (7, AV.int IntKind.i64 n), (8, AV.int IntKind.i64 (IntKind.i64.wrap (i + 1)))] [AO.cells 0 [AV.int IntKind.i64 a1, AV.int IntKind.i64 b1, AV.int IntKind.u16 p1], AO.cells 0 [AV.sl 4 (max v ((l + 1) * 2)) 0 (l + 1) 2], AO.loop LoopState.ready none 44 [(2, AV.fs 0 [] SF.nil), (3, AV.int IntKind.i64 0), (5, AV.ptr 1 0 0), (14, AV.fn (Fn.func 68) [] [AV.fp [AV.int IntKind.i64 a2, AV.int IntKind.i64 b2, AV.int IntKind.u16 p2]]), (15, AV.junk)] 490007, AO.cells 0 [AV.int IntKind.u16 x, AV.int IntKind.u16 y], AO.cells (max v ((l + 1) * 2)) (List.take (l * 2) cs ++ [AV.int IntKind.u16 (IntKind.u16.wrap (IntKind.u32.wrap (↑(BitVec.ofInt 32 (IntKind.u32.wrap (IntKind.u32.wrap i * 2 ^ min (IntKind.u64.wrap (IntKind.i64.wrap (16 - a))).toNat 32)) ||| BitVec.ofInt 32 (IntKind.u32.wrap (IntKind.u32.wrap p * 2 ^ min (IntKind.u64.wrap (16 - a - b)).toNat 32))).toNat : Int))), AV.int IntKind.u16 (IntKind.u16.wrap (IntKind.u32.wrap (↑(BitVec.ofInt 32 (IntKind.u32.wrap (↑(BitVec.ofInt 32 (IntKind.u32.wrap (IntKind.u32.wrap i * 2 ^ min (IntKind.u64.wrap (IntKind.i64.wrap (16 - a))).toNat 32)) ||| BitVec.ofInt 32 (IntKind.u32.wrap (IntKind.u32.wrap p * 2 ^ min (IntKind.u64.wrap (16 - a - b)).toNat 32))).toNat : Int)) ||| BitVec.ofInt 32 (IntKind.u32.wrap (IntKind.u32.wrap (1 * 2 ^ min (IntKind.u64.wrap (16 - a - b)).toNat 32) - 1))).toNat : Int)))] ++ List.drop (l * 2 + 2) cs), AO.cells 0 [AV.int IntKind.u16 (IntKind.u16.wrap (IntKind.u32.wrap (↑(BitVec.ofInt 32 (IntKind.u32.wrap (IntKind.u32.wrap i * 2 ^ min (IntKind.u64.wrap (IntKind.i64.wrap (16 - a))).toNat 32)) ||| BitVec.ofInt 32 (IntKind.u32.wrap (IntKind.u32.wrap p * 2 ^ min (IntKind.u64.wrap (16 - a - b)).toNat 32))).toNat : Int))), AV.int IntKind.u16 (IntKind.u16.wrap (IntKind.u32.wrap (↑(BitVec.ofInt 32 (IntKind.u32.wrap (↑(BitVec.ofInt 32 (IntKind.u32.wrap (IntKind.u32.wrap i * 2 ^ min (IntKind.u64.wrap (IntKind.i64.wrap (16 - a))).toNat 32)) ||| BitVec.ofInt 32 (IntKind.u32.wrap (IntKind.u32.wrap p * 2 ^ min (IntKind.u64.wrap (16 - a - b)).toNat 32))).toNat : Int)) ||| BitVec.ofInt 32 (IntKind.u32.wrap (IntKind.u32.wrap (1 * 2 ^ min (IntKind.u64.wrap (16 - a - b)).toNat 32) - 1))).toNat : Int)))]])) none) none))) none) none) none) none) none) (aIf (v == 0) none (aIf (w == v) (aIf (((l + 1) * 4).ble 140737488355328) (aIf (true && (true && (true && (true && (true && (AV.uptoL 5 (List.take (l * 2) cs ++ [AV.int IntKind.u16 (IntKind.u16.wrap (IntKind.u32.wrap (↑(BitVec.ofInt 32 (IntKind.u32.wrap (IntKind.u32.wrap i * 2 ^ min (IntKind.u64.wrap (IntKind.i64.wrap (16 - a))).toNat 32)) ||| BitVec.ofInt 32 (IntKind.u32.wrap (IntKind.u32.wrap p * 2 ^ min (IntKind.u64.wrap (16 - a - b)).toNat 32))).toNat : Int))), AV.int IntKind.u16 (IntKind.u16.wrap (IntKind.u32.wrap (↑(BitVec.ofInt 32 (IntKind.u32.wrap (↑(BitVec.ofInt 32 (IntKind.u32.wrap (IntKind.u32.wrap i * 2 ^ min (IntKind.u64.wrap (IntKind.i64.wrap (16 - a))).toNat 32)) ||| BitVec.ofInt 32 (IntKind.u32.wrap (IntKind.u32.wrap p * 2 ^ min (IntKind.u64.wrap (16 - a - b)).toNat 32))).toNat : Int)) ||| BitVec.ofInt 32 (IntKind.u32.wrap (IntKind.u32.wrap (1 * 2 ^ min (IntKind.u64.wrap (16 - a - b)).toNat 32) - 1))).toNat : Int)))] ++ List.drop (l * 2 + 2) cs) && true)))))) (k AExit.normal [(0, AV.yld 2), (1, AV.fp [AV.int IntKind.i64 a, AV.int IntKind.i64 b, AV.int IntKind.u16 p]), (7, AV.int IntKind.i64 n), (8, AV.int IntKind.i64 (IntKind.i64.wrap (i + 1)))] [AO.cells 0 [AV.int IntKind.i64 a1, AV.int IntKind.i64 b1, AV.int IntKind.u16 p1], AO.cells 0 [AV.sl 4 (max v ((l + 1) * 2)) 0 (l + 1) 2], AO.loop LoopState.ready none 44 [(2, AV.fs 0 [] SF.nil), (3, AV.int IntKind.i64 0), (5, AV.ptr 1 0 0), (14, AV.fn (Fn.func 68) [] [AV.fp [AV.int IntKind.i64 a2, AV.int IntKind.i64 b2, AV.int IntKind.u16 p2]]), (15, AV.junk)] 490007, AO.cells 0 [AV.int IntKind.u16 x, AV.int IntKind.u16 y], AO.cells (max v ((l + 1) * 2)) (List.take (l * 2) cs ++ [AV.int IntKind.u16 (IntKind.u16.wrap (IntKind.u32.wrap (↑(BitVec.ofInt 32 (IntKind.u32.wrap (IntKind.u32.wrap i * 2 ^ min (IntKind.u64.wrap (IntKind.i64.wrap (16 - a))).toNat 32)) ||| BitVec.ofInt 32 (IntKind.u32.wrap (IntKind.u32.wrap p * 2 ^ min (IntKind.u64.wrap (16 - a - b)).toNat 32))).toNat : Int))), AV.int IntKind.u16 (IntKind.u16.wrap (IntKind.u32.wrap (↑(BitVec.ofInt 32 (IntKind.u32.wrap (↑(BitVec.ofInt 32 (IntKind.u32.wrap (IntKind.u32.wrap i * 2 ^ min (IntKind.u64.wrap (IntKind.i64.wrap (16 - a))).toNat 32)) ||| BitVec.ofInt 32 (IntKind.u32.wrap (IntKind.u32.wrap p * 2 ^ min (IntKind.u64.wrap (16 - a - b)).toNat 32))).toNat : Int)) ||| BitVec.ofInt 32 (IntKind.u32.wrap (IntKind.u32.wrap (1 * 2 ^ min (IntKind.u64.wrap (16 - a - b)).toNat 32) - 1))).toNat : Int)))] ++ List.drop (l * 2 + 2) cs)]) (k AExit.normal [(0, AV.yld 2), (1, AV.fp [AV.int IntKind.i64 a, AV.int IntKind.i64 b, AV.int IntKind.u16 p]), (7, AV.int IntKind.i64 n), (8, AV.int IntKind.i64 (IntKind.i64.wrap (i + 1)))] [AO.cells 0 [AV.int IntKind.i64 a1, AV.int IntKind.i64 b1, AV.int IntKind.u16 p1], AO.cells 0 [AV.sl 4 (max v ((l + 1) * 2)) 0 (l + 1) 2], AO.loop LoopState.ready none 44 [(2, AV.fs 0 [] SF.nil), (3, AV.int IntKind.i64 0), (5, AV.ptr 1 0 0), (14, AV.fn (Fn.func 68) [] [AV.fp [AV.int IntKind.i64 a2, AV.int IntKind.i64 b2, AV.int IntKind.u16 p2]]), (15, AV.junk)] 490007, AO.cells 0 [AV.int IntKind.u16 x, AV.int IntKind.u16 y], AO.cells (max v ((l + 1) * 2)) (List.take (l * 2) cs ++ [AV.int IntKind.u16 (IntKind.u16.wrap (IntKind.u32.wrap (↑(BitVec.ofInt 32 (IntKind.u32.wrap (IntKind.u32.wrap i * 2 ^ min (IntKind.u64.wrap (IntKind.i64.wrap (16 - a))).toNat 32)) ||| BitVec.ofInt 32 (IntKind.u32.wrap (IntKind.u32.wrap p * 2 ^ min (IntKind.u64.wrap (16 - a - b)).toNat 32))).toNat : Int))), AV.int IntKind.u16 (IntKind.u16.wrap (IntKind.u32.wrap (↑(BitVec.ofInt 32 (IntKind.u32.wrap (↑(BitVec.ofInt 32 (IntKind.u32.wrap (IntKind.u32.wrap i * 2 ^ min (IntKind.u64.wrap (IntKind.i64.wrap (16 - a))).toNat 32)) ||| BitVec.ofInt 32 (IntKind.u32.wrap (IntKind.u32.wrap p * 2 ^ min (IntKind.u64.wrap (16 - a - b)).toNat 32))).toNat : Int)) ||| BitVec.ofInt 32 (IntKind.u32.wrap (IntKind.u32.wrap (1 * 2 ^ min (IntKind.u64.wrap (16 - a - b)).toNat 32) - 1))).toNat : Int)))] ++ List.drop (l * 2 + 2) cs), AO.cells 0 [AV.int IntKind.u16 (IntKind.u16.wrap (IntKind.u32.wrap (↑(BitVec.ofInt 32 (IntKind.u32.wrap (IntKind.u32.wrap i * 2 ^ min (IntKind.u64.wrap (IntKind.i64.wrap (16 - a))).toNat 32)) ||| BitVec.ofInt 32 (IntKind.u32.wrap (IntKind.u32.wrap p * 2 ^ min (IntKind.u64.wrap (16 - a - b)).toNat 32))).toNat : Int))), AV.int IntKind.u16 (IntKind.u16.wrap (IntKind.u32.wrap (↑(BitVec.ofInt 32 (IntKind.u32.wrap (↑(BitVec.ofInt 32 (IntKind.u32.wrap (IntKind.u32.wrap i * 2 ^ min (IntKind.u64.wrap (IntKind.i64.wrap (16 - a))).toNat 32)) ||| BitVec.ofInt 32 (IntKind.u32.wrap (IntKind.u32.wrap p * 2 ^ min (IntKind.u64.wrap (16 - a - b)).toNat 32))).toNat : Int)) ||| BitVec.ofInt 32 (IntKind.u32.wrap (IntKind.u32.wrap (1 * 2 ^ min (IntKind.u64.wrap (16 - a - b)).toNat 32) - 1))).toNat : Int)))]])) none) none)))) none)) none))) (k (AExit.exit 0) [(0, AV.yld 2), (1, AV.fp [AV.int IntKind.i64 a, AV.int IntKind.i64 b, AV.int IntKind.u16 p]), (7, AV.int IntKind.i64 n), (8, AV.int IntKind.i64 i), (9, AV.bool (decide (i < n)))] [AO.cells 0 [AV.int IntKind.i64 a1, AV.int IntKind.i64 b1, AV.int IntKind.u16 p1], AO.cells 0 [AV.sl 4 v 0 l 2], AO.loop LoopState.ready none 44 [(2, AV.fs 0 [] SF.nil), (3, AV.int IntKind.i64 0), (5, AV.ptr 1 0 0), (14, AV.fn (Fn.func 68) [] [AV.fp [AV.int IntKind.i64 a2, AV.int IntKind.i64 b2, AV.int IntKind.u16 p2]]), (15, AV.junk)] 490007, AO.cells 0 [AV.int IntKind.u16 x, AV.int IntKind.u16 y], AO.cells w cs]) := by kernel_rfl
theorem L68y49_1_ok : LoopSum C68y49 (loopB Try.f68 0) L68y49_1 := LoopSum.of C68y49_ok L68y49_1_in (fun ts H => by
  unfold L68y49_1
  split
  · rename_i a b p n i a1 b1 p1 a2 b2 p2
    rcases Bool.eq_false_or_eq_true (i == 0 && n == (2 : Int) ^ a.toNat && psetB a b p && right a b p) with hp | hp
    · refine .inr ?_
      simp only [aIf_pos hp]
      simp only [Bool.and_eq_true, beq_iff_eq] at hp
      obtain ⟨⟨⟨rfl, rfl⟩, hp⟩, hr⟩ := hp
      obtain ⟨a, b, p, rfl, rfl, rfl, ha, hb, hpb⟩ := right_nats hp hr
      have h15 := two_le ha hb
      have hpos := mP_pos a b
      have hgz := gZ_lt a
      have hpr : (psetB (a : Int) (b : Int) (p : Int) && right (a : Int) (b : Int) (p : Int)) = true := by rw [hp, hr]; rfl
      have hw : decide (IntKind.u64.wrap (IntKind.i64.wrap (16 - (a : Int))) < 0) = false := by rw [w16a ha hb]; exact decide_eq_false (by omega)
      have hw2 : decide (IntKind.u64.wrap (16 - (a : Int) - (b : Int)) < 0) = false := by rw [w16b ha hb]; exact decide_eq_false (by omega)
      have ti : ∀ k n, (AV.int k n).toInt = n := fun _ _ => rfl
      have hii : ∀ n, (AV.int .u16 n).isInt .u16 = true := fun _ => rfl
      rw [Int.toNat_natCast, cast_pow]
      have key1 : ∀ j : Nat, j = gZ a → ∀ k, headedK C68y49 (loopB Try.f68 0) [(0, .yld 2), (1, .fp [.int .i64 (a : Int), .int .i64 (b : Int), .int .u16 (p : Int)]), (7, .int .i64 ((2 ^ a : Nat) : Int)), (8, .int .i64 (j : Int))] [.cells 0 [.int .i64 a1, .int .i64 b1, .int .u16 p1], .cells 0 [.fs 2 [] .nil], .loop .ready none 44 [(2, .fs 0 [] .nil), (3, .int .i64 0), (5, .ptr 1 0 0), (14, .fn (.func 68) [] [.fp [.int .i64 a2, .int .i64 b2, .int .u16 p2]]), (15, .junk)] 490007] k = k .normal [(0, .yld 2), (1, .fp [.int .i64 (a : Int), .int .i64 (b : Int), .int .u16 (p : Int)]), (7, .int .i64 ((2 ^ a : Nat) : Int)), (8, .int .i64 ((j + 1 : Nat) : Int))] [.cells 0 [.int .i64 a1, .int .i64 b1, .int .u16 p1], .cells 0 [.sl 4 (2 * (rowsG a b p (j + 1 - gZ a)).length) 0 (rowsG a b p (j + 1 - gZ a)).length 2], .loop .ready none 44 [(2, .fs 0 [] .nil), (3, .int .i64 0), (5, .ptr 1 0 0), (14, .fn (.func 68) [] [.fp [.int .i64 a2, .int .i64 b2, .int .u16 p2]]), (15, .junk)] 490007, .cells 0 [.int .u16 (frm a b p (gZ a) : Nat), .int .u16 (frm a b p (gZ a) + (mP a b - 1) : Nat)], .cells (2 * (rowsG a b p (j + 1 - gZ a)).length) (rowsA (rowsG a b p (j + 1 - gZ a)))] := by
        intro j hj1 k
        have hj0 : gZ a ≤ j := by omega
        have hj : j < 2 ^ a := by omega
        have hlt : decide ((j : Int) < ((2 ^ a : Nat) : Int)) = true := decide_eq_true (by omega)
        have hn1 : IntKind.i64.wrap ((j : Int) + 1) = ((j + 1 : Nat) : Int) := by rw [i64_of (by omega) (by omega)]; omega
        have hfv := from_val (g := j) (G := (j : Int)) ha hb hpb hj (u32_of (by omega) (by omega))
        have htv := to_val ha hb hpb hj
        have hfr := frm16 ha hb hpb hj
        have hfl := frm_le ha hb hpb hj
        have hz : (j = 0 → a = 0) := by
          intro h0; subst h0
          by_cases h2 : a = 0
          · exact h2
          · unfold gZ at hj0; rw [if_neg h2] at hj0; omega
        have hin : ∀ X Y : Res, aIf ((j : Int) == 0) (aIf (decide ((a : Int) > 0)) X Y) Y = Y := by
          intro X Y
          by_cases h0 : j = 0
          · have := hz h0
            rw [decide_eq_false (show ¬ (a : Int) > 0 by omega), aIf_false]
            cases ((j : Int) == 0) <;> rfl
          · rw [beq_eq_false_iff_ne.2 (show (j : Int) ≠ 0 by omega), aIf_false]
        rw [M68y49_1a]
        simp only [hlt, hpr, hw, hw2, hfv, htv, hfr, hn1, aIf_true, aIf_false]
        have e1 : rowsG a b p 1 = [(frm a b p (gZ a), frm a b p (gZ a) + (mP a b - 1))] := by
          show [(frm a b p (gZ a + 0), frm a b p (gZ a + 0) + mP a b - 1)] = _
          rw [Nat.add_zero, show frm a b p (gZ a) + mP a b - 1 = frm a b p (gZ a) + (mP a b - 1) by omega]
        rw [hin, hj1, show gZ a + 1 - gZ a = 1 by omega, e1]
        rfl
      have key2 : ∀ j : Nat, gZ a < j → j < 2 ^ a → ∀ k, headedK C68y49 (loopB Try.f68 0) [(0, .yld 2), (1, .fp [.int .i64 (a : Int), .int .i64 (b : Int), .int .u16 (p : Int)]), (7, .int .i64 ((2 ^ a : Nat) : Int)), (8, .int .i64 (j : Int))] [.cells 0 [.int .i64 a1, .int .i64 b1, .int .u16 p1], .cells 0 [.sl 4 (2 * (rowsG a b p (j - gZ a)).length) 0 (rowsG a b p (j - gZ a)).length 2], .loop .ready none 44 [(2, .fs 0 [] .nil), (3, .int .i64 0), (5, .ptr 1 0 0), (14, .fn (.func 68) [] [.fp [.int .i64 a2, .int .i64 b2, .int .u16 p2]]), (15, .junk)] 490007, .cells 0 [.int .u16 (frm a b p (gZ a) : Nat), .int .u16 (frm a b p (gZ a) + (mP a b - 1) : Nat)], .cells (2 * (rowsG a b p (j - gZ a)).length) (rowsA (rowsG a b p (j - gZ a)))] k = k .normal [(0, .yld 2), (1, .fp [.int .i64 (a : Int), .int .i64 (b : Int), .int .u16 (p : Int)]), (7, .int .i64 ((2 ^ a : Nat) : Int)), (8, .int .i64 ((j + 1 : Nat) : Int))] [.cells 0 [.int .i64 a1, .int .i64 b1, .int .u16 p1], .cells 0 [.sl 4 (2 * (rowsG a b p (j + 1 - gZ a)).length) 0 (rowsG a b p (j + 1 - gZ a)).length 2], .loop .ready none 44 [(2, .fs 0 [] .nil), (3, .int .i64 0), (5, .ptr 1 0 0), (14, .fn (.func 68) [] [.fp [.int .i64 a2, .int .i64 b2, .int .u16 p2]]), (15, .junk)] 490007, .cells 0 [.int .u16 (frm a b p (gZ a) : Nat), .int .u16 (frm a b p (gZ a) + (mP a b - 1) : Nat)], .cells (2 * (rowsG a b p (j + 1 - gZ a)).length) (rowsA (rowsG a b p (j + 1 - gZ a)))] := by
        intro j hj1 hj k
        have hj0 : gZ a ≤ j := by omega
        have hlt : decide ((j : Int) < ((2 ^ a : Nat) : Int)) = true := decide_eq_true (by omega)
        have hn1 : IntKind.i64.wrap ((j : Int) + 1) = ((j + 1 : Nat) : Int) := by rw [i64_of (by omega) (by omega)]; omega
        have hfv := from_val (g := j) (G := (j : Int)) ha hb hpb hj (u32_of (by omega) (by omega))
        have htv := to_val ha hb hpb hj
        have hfr := frm16 ha hb hpb hj
        have hfl := frm_le ha hb hpb hj
        have hz : (j = 0 → a = 0) := by
          intro h0; subst h0
          by_cases h2 : a = 0
          · exact h2
          · unfold gZ at hj0; rw [if_neg h2] at hj0; omega
        have hin : ∀ X Y : Res, aIf ((j : Int) == 0) (aIf (decide ((a : Int) > 0)) X Y) Y = Y := by
          intro X Y
          by_cases h0 : j = 0
          · have := hz h0
            rw [decide_eq_false (show ¬ (a : Int) > 0 by omega), aIf_false]
            cases ((j : Int) == 0) <;> rfl
          · rw [beq_eq_false_iff_ne.2 (show (j : Int) ≠ 0 by omega), aIf_false]
        obtain ⟨k0, rfl⟩ : ∃ k0, j = gZ a + (k0 + 1) := ⟨j - gZ a - 1, by omega⟩
        obtain ⟨l, q, hl⟩ := rowsG_last (a := a) (b := b) (p := p) k0
        have hlen := rowsG_len (a := a) (b := b) (p := p) (k0 + 1)
        have hnext : rowsG a b p (k0 + 1 + 1) = bif decide (k0 + 1 > 0) && (b == 0) then lastTo (rowsG a b p (k0 + 1)) (frm a b p (gZ a + (k0 + 1)) + mP a b - 1) else rowsG a b p (k0 + 1) ++ [(frm a b p (gZ a + (k0 + 1)), frm a b p (gZ a + (k0 + 1)) + mP a b - 1)] := rfl
        rw [show gZ a + (k0 + 1) - gZ a = k0 + 1 by omega, show gZ a + (k0 + 1) + 1 - gZ a = k0 + 1 + 1 by omega, hnext, hl]
        rw [hl, List.length_append, List.length_singleton] at hlen
        rw [M68y49_1b]
        have e0 : (l ++ [(q, frm a b p (gZ a + k0) + mP a b - 1)]).length = l.length + 1 := by rw [List.length_append]; rfl
        have e1 : IntKind.i64.wrap (((l.length + 1 : Nat) : Int) - 1) = (l.length : Int) := by rw [i64_of (by omega) (by omega)]; omega
        have e2 : 0 + l.length * 2 + 1 = 2 * l.length + 1 := by omega
        have e3 := rowsA_length (l ++ [(q, frm a b p (gZ a + k0) + mP a b - 1)])
        rw [e0] at e3
        have e4 := rowsA_last l (q, frm a b p (gZ a + k0) + mP a b - 1)
        have hs : frm a b p (gZ a + (k0 + 1)) = frm a b p (gZ a + k0) + AP a := frm_succ _
        have hmle := mP_le hb
        have e5 : IntKind.u16.wrap (((frm a b p (gZ a + k0) + mP a b - 1 : Nat) : Int) + 1) = ((frm a b p (gZ a + k0) + mP a b : Nat) : Int) := by rw [u16_of (by omega) (by omega)]; omega
        have e6 : (((frm a b p (gZ a + k0) + mP a b : Nat) : Int) == ((frm a b p (gZ a + (k0 + 1)) : Nat) : Int)) = (b == 0) := by
          rw [Bool.eq_iff_iff, beq_iff_eq, beq_iff_eq]
          constructor
          · intro h
            by_cases hb0 : b = 0
            · exact hb0
            · have := mP_lt hb hb0; omega
          · intro h
            have := mP_eq (a := a) h; omega
        have e7 : ((l.length + 1 + 1) * 4).ble 140737488355328 = true := (by rw [Nat.ble_eq]; omega)
        have e8 : (2 * (l.length + 1) == 0) = false := beq_eq_false_iff_ne.2 (by omega)
        have e9 : max (2 * (l.length + 1)) ((l.length + 1 + 1) * 2) = 2 * (l.length + 1 + 1) := by omega
        have e10 : frm a b p (gZ a + (k0 + 1)) + mP a b - 1 = frm a b p (gZ a + (k0 + 1)) + (mP a b - 1) := by omega
        rw [e10, decide_eq_true (show k0 + 1 > 0 by omega), Bool.true_and]
        simp only [hlt, hpr, hw, hw2, hfv, htv, hfr, hn1, aIf_true, aIf_false, e0, e1, Int.toNat_natCast, e2, e4, hii, ti, e5, e6, e7, e8, e9, beq_self_eq_true, decide_eq_true (show ((l.length + 1 : Nat) : Int) > 0 by omega), decide_eq_true (show (0 : Int) ≤ (l.length : Int) by omega),
          decide_eq_true (show (l.length : Int) < ((l.length + 1 : Nat) : Int) by omega), decide_eq_true (show 2 * l.length + 1 + 1 ≤ (rowsA (l ++ [(q, frm a b p (gZ a + k0) + mP a b - 1)])).length by omega), rowsA_set]
        have e11 := rowsA_put (l ++ [(q, frm a b p (gZ a + k0) + mP a b - 1)]) (frm a b p (gZ a + (k0 + 1))) (frm a b p (gZ a + (k0 + 1)) + (mP a b - 1))
        rw [e0] at e11
        rw [hin]
        simp only [e11, rowsA_upto, Bool.and_self, aIf_true]
        cases hbb : (b == 0) with
        | true =>
          show _ = k .normal _ [_, .cells 0 [.sl 4 (2 * (lastTo (l ++ [(q, frm a b p (gZ a + k0) + mP a b - 1)]) (frm a b p (gZ a + (k0 + 1)) + (mP a b - 1))).length) 0 (lastTo (l ++ [(q, frm a b p (gZ a + k0) + mP a b - 1)]) (frm a b p (gZ a + (k0 + 1)) + (mP a b - 1))).length 2], _, _, .cells (2 * (lastTo (l ++ [(q, frm a b p (gZ a + k0) + mP a b - 1)]) (frm a b p (gZ a + (k0 + 1)) + (mP a b - 1))).length) _]
          rw [lastTo_length, e0]; rfl
        | false =>
          show _ = k .normal _ [_, .cells 0 [.sl 4 (2 * (l ++ [(q, frm a b p (gZ a + k0) + mP a b - 1)] ++ [(frm a b p (gZ a + (k0 + 1)), frm a b p (gZ a + (k0 + 1)) + (mP a b - 1))]).length) 0 (l ++ [(q, frm a b p (gZ a + k0) + mP a b - 1)] ++ [(frm a b p (gZ a + (k0 + 1)), frm a b p (gZ a + (k0 + 1)) + (mP a b - 1))]).length 2], _, _, .cells (2 * (l ++ [(q, frm a b p (gZ a + k0) + mP a b - 1)] ++ [(frm a b p (gZ a + (k0 + 1)), frm a b p (gZ a + (k0 + 1)) + (mP a b - 1))]).length) _]
          rw [List.length_append, e0]; rfl
      have hend := iter_fold (δ := Unit) (N := 2 ^ a) (F := headedK C68y49 (loopB Try.f68 0)) (ts := fun j _ => [(0, .yld 2), (1, .fp [.int .i64 (a : Int), .int .i64 (b : Int), .int .u16 (p : Int)]), (7, .int .i64 ((2 ^ a : Nat) : Int)), (8, .int .i64 (j : Int))]) (H := fun j _ => [.cells 0 [.int .i64 a1, .int .i64 b1, .int .u16 p1], .cells 0 [.sl 4 (2 * (rowsG a b p (j - gZ a)).length) 0 (rowsG a b p (j - gZ a)).length 2], .loop .ready none 44 [(2, .fs 0 [] .nil), (3, .int .i64 0), (5, .ptr 1 0 0), (14, .fn (.func 68) [] [.fp [.int .i64 a2, .int .i64 b2, .int .u16 p2]]), (15, .junk)] 490007, .cells 0 [.int .u16 (frm a b p (gZ a) : Nat), .int .u16 (frm a b p (gZ a) + (mP a b - 1) : Nat)], .cells (2 * (rowsG a b p (j - gZ a)).length) (rowsA (rowsG a b p (j - gZ a)))]) (f := fun _ u => u) (I := fun j _ => gZ a < j) (ee := .exit 0) (te := fun _ => [(0, .yld 2), (1, .fp [.int .i64 (a : Int), .int .i64 (b : Int), .int .u16 (p : Int)]), (7, .int .i64 ((2 ^ a : Nat) : Int)), (8, .int .i64 ((2 ^ a : Nat) : Int)), (9, .bool false)]) (He := fun _ => [.cells 0 [.int .i64 a1, .int .i64 b1, .int .u16 p1], .cells 0 [.sl 4 (2 * (rowsG a b p (2 ^ a - gZ a)).length) 0 (rowsG a b p (2 ^ a - gZ a)).length 2], .loop .ready none 44 [(2, .fs 0 [] .nil), (3, .int .i64 0), (5, .ptr 1 0 0), (14, .fn (.func 68) [] [.fp [.int .i64 a2, .int .i64 b2, .int .u16 p2]]), (15, .junk)] 490007, .cells 0 [.int .u16 (frm a b p (gZ a) : Nat), .int .u16 (frm a b p (gZ a) + (mP a b - 1) : Nat)], .cells (2 * (rowsG a b p (2 ^ a - gZ a)).length) (rowsA (rowsG a b p (2 ^ a - gZ a)))])
        (fun j d hj hI => ⟨by omega, fun k => key2 j hI hj k⟩)
        (fun d _ k => by rw [M68y49_1b, decide_eq_false (by omega), aIf_false]) (by intro h; cases h) (2 ^ a - (gZ a + 1)) (gZ a + 1) () (by omega) (by omega)
      obtain ⟨m, hm⟩ := hend
      have e1 : ∀ k, aIterK (m + 1) (headedK C68y49 (loopB Try.f68 0)) [(0, .yld 2), (1, .fp [.int .i64 (a : Int), .int .i64 (b : Int), .int .u16 (p : Int)]), (7, .int .i64 ((2 ^ a : Nat) : Int)), (8, .int .i64 ((gZ a : Nat) : Int))] [.cells 0 [.int .i64 a1, .int .i64 b1, .int .u16 p1], .cells 0 [.fs 2 [] .nil], .loop .ready none 44 [(2, .fs 0 [] .nil), (3, .int .i64 0), (5, .ptr 1 0 0), (14, .fn (.func 68) [] [.fp [.int .i64 a2, .int .i64 b2, .int .u16 p2]]), (15, .junk)] 490007] k = k (.exit 0) [(0, .yld 2), (1, .fp [.int .i64 (a : Int), .int .i64 (b : Int), .int .u16 (p : Int)]), (7, .int .i64 ((2 ^ a : Nat) : Int)), (8, .int .i64 ((2 ^ a : Nat) : Int)), (9, .bool false)] [.cells 0 [.int .i64 a1, .int .i64 b1, .int .u16 p1], .cells 0 [.sl 4 (2 * (rowsG a b p (2 ^ a - gZ a)).length) 0 (rowsG a b p (2 ^ a - gZ a)).length 2], .loop .ready none 44 [(2, .fs 0 [] .nil), (3, .int .i64 0), (5, .ptr 1 0 0), (14, .fn (.func 68) [] [.fp [.int .i64 a2, .int .i64 b2, .int .u16 p2]]), (15, .junk)] 490007, .cells 0 [.int .u16 (frm a b p (gZ a) : Nat), .int .u16 (frm a b p (gZ a) + (mP a b - 1) : Nat)], .cells (2 * (rowsG a b p (2 ^ a - gZ a)).length) (rowsA (rowsG a b p (2 ^ a - gZ a)))] := fun k => (iter_next (key1 (gZ a) rfl) m k).trans (hm k)
      by_cases h0 : a = 0
      · refine ⟨m + 1, fun k => ?_⟩
        have := e1 k
        rw [show ((gZ a : Nat) : Int) = 0 by subst h0; rfl] at this
        exact this.symm
      · refine ⟨m + 1 + 1, fun k => ?_⟩
        have hz : gZ a = 1 := if_neg h0
        have e2 : ∀ k, headedK C68y49 (loopB Try.f68 0) [(0, .yld 2), (1, .fp [.int .i64 (a : Int), .int .i64 (b : Int), .int .u16 (p : Int)]), (7, .int .i64 ((2 ^ a : Nat) : Int)), (8, .int .i64 0)] [.cells 0 [.int .i64 a1, .int .i64 b1, .int .u16 p1], .cells 0 [.fs 2 [] .nil], .loop .ready none 44 [(2, .fs 0 [] .nil), (3, .int .i64 0), (5, .ptr 1 0 0), (14, .fn (.func 68) [] [.fp [.int .i64 a2, .int .i64 b2, .int .u16 p2]]), (15, .junk)] 490007] k = k .normal [(0, .yld 2), (1, .fp [.int .i64 (a : Int), .int .i64 (b : Int), .int .u16 (p : Int)]), (7, .int .i64 ((2 ^ a : Nat) : Int)), (8, .int .i64 1)] [.cells 0 [.int .i64 a1, .int .i64 b1, .int .u16 p1], .cells 0 [.fs 2 [] .nil], .loop .ready none 44 [(2, .fs 0 [] .nil), (3, .int .i64 0), (5, .ptr 1 0 0), (14, .fn (.func 68) [] [.fp [.int .i64 a2, .int .i64 b2, .int .u16 p2]]), (15, .junk)] 490007] := fun k => by
          rw [M68y49_1a, decide_eq_true (show (0 : Int) < ((2 ^ a : Nat) : Int) by omega), aIf_true, show ((0 : Int) == 0) = true from rfl, aIf_true, decide_eq_true (show (a : Int) > 0 by omega), aIf_true]; rfl
        have := e1 k
        rw [show ((gZ a : Nat) : Int) = 1 by rw [hz]; rfl] at this
        exact ((iter_next e2 (m + 1) k).trans this).symm
    · exact .inl fun k => by rw [aIf_neg hp]
  · exact .inl fun k => rfl)
theorem C68y49_loops : ∀ c, Try.f68.body = some c → LoopsOK C68y49 c := LoopsOK.of 1 (by kernel_rfl) (fun j hj S hS => by
  match j, hj with
  | 0, _ => rw [C68y49_l0] at hS; cases hS; exact L68y49_1_ok
  | n + 1, hj => omega)
theorem S68y49_ok : SpecOK Try.prog 68 S68y49 := liveK_ok C68y49_ok Try.func68 C68y49_loops
noncomputable def T49b : List (FuncId × FSpec) := (68, S68y49) :: T49
theorem T49b_ok : TabOK Try.prog T49b := TabOK.cons En68 S68y49_ok (T49_ok)
noncomputable def C49 : Ctx := (ctx E T49b [] [(0, [1, 2, 3, 15]), (1, [1, 2, 3, 4, 15]), (2, [1, 2, 3, 4, 11, 15]), (3, [2, 3]), (4, [1, 2, 3, 5, 15]), (5, [2, 3, 5, 14, 15]), (6, [5, 6]), (7, [5, 6, 7]), (8, [5, 6, 7, 31]), (9, []), (10, []), (11, [2, 3])] [] 44 70).ranging 49
theorem C49_ok : CtxOK Try.prog C49 := Ctx.ranging_ok (ctx_ok E_ok E_flds mixed T49b_ok) 49
theorem C49_loops : ∀ c, Try.f49.body = some c → LoopsOK C49 c := LoopsOK.of 0 (by kernel_rfl) (fun j hj S hS => by
  omega) (keys_of (by kernel_rfl))
noncomputable def B49 : FSpec := inlineK C49 Try.f49
noncomputable def S49 : FSpec := fun args H k => match args, H with
  | [.agg [.int .i64 a, .int .i64 b, .int .u16 p]], [] => aIf (psetB a b p) (k (.ret (.tup [.fs 2 (runsV a b p) (runsS a b p), .int .i64 (ofE a b p)])) []) none
  | _, _ => none
theorem B49_ok : SpecOK Try.prog 49 B49 := inlineK_ok C49_ok Try.func49 C49_loops
theorem N49 (a b p : Int) (k : KE) : B49 [.agg [.int .i64 a, .int .i64 b, .int .u16 p]] [] k =
  aIf (Pl.psetB a b p) (aIf (Pl.right a b p) (aIf (decide (a < 0)) none (aIf (true && IntKind.i64.wrap (1 * 2 ^ min a.toNat 64) == 2 ^ a.toNat && Pl.psetB a b p && Pl.right a b p) (aIf (2 * (Pl.runsR a b p).length == 2 * (Pl.runsR a b p).length) (aIf (decide (0 + (Pl.runsR a b p).length * 2 ≤ (Pl.rowsA (Pl.runsR a b p)).length)) (aIf (flatL (List.take ((Pl.runsR a b p).length * 2) (List.drop 0 (Pl.rowsA (Pl.runsR a b p))))) (k (AEnd.ret (AV.tup [AV.fs 2 (List.map (fun i => AV.agg (List.take 2 (List.drop (0 + i * 2) (Pl.rowsA (Pl.runsR ((evalO (numbered 0 [AV.agg [AV.int IntKind.i64 a, AV.int IntKind.i64 b, AV.int IntKind.u16 p]]) (Operand.tmp 0)).cells.getD 0 AV.junk).toInt ((evalO (numbered 0 [AV.agg [AV.int IntKind.i64 a, AV.int IntKind.i64 b, AV.int IntKind.u16 p]]) (Operand.tmp 0)).cells.getD (0 + 1) AV.junk).toInt ((evalO (numbered 0 [AV.agg [AV.int IntKind.i64 a, AV.int IntKind.i64 b, AV.int IntKind.u16 p]]) (Operand.tmp 0)).cells.getD (0 + 1 + 1) AV.junk).toInt))))) (List.range (Pl.runsR a b p).length)) SF.any, AV.int IntKind.i64 0])) []) none) none) none) none)) (k (AEnd.ret (AV.tup [AV.fs 2 [] SF.nil, AV.int IntKind.i64 90])) [])) none := by kernel_rfl
theorem S49_ok : SpecOK Try.prog 49 S49 := by
  refine B49_ok.turn fun args H => ?_
  unfold S49
  split
  · rename_i a b p
    rcases Bool.eq_false_or_eq_true (psetB a b p) with hp | hp
    · refine .inr fun k => ?_
      rw [aIf_pos hp, N49]
      rw [aIf_pos hp]
      cases hr : right a b p with
      | false => unfold runsV runsS ofE; rw [hr]; rfl
      | true =>
        obtain ⟨a, b, p, rfl, rfl, rfl, ha, hb, hpb⟩ := right_nats hp hr
        have eE : ofE (a : Int) (b : Int) (p : Int) = 0 := by unfold ofE; rw [hr]; rfl
        have eV : runsV (a : Int) (b : Int) (p : Int) = rowsE (runsR a b p) := by unfold runsV; rw [hr]; rfl
        have eS : runsS (a : Int) (b : Int) (p : Int) = .any := by unfold runsS; rw [hr]; rfl
        have eL := rowsA_length (runsR a b p)
        have eF : flatL (List.take ((runsR a b p).length * 2) (List.drop 0 (rowsA (runsR a b p)))) = true := by
          rw [List.drop_zero, List.take_of_length_le (by rw [eL]; omega)]; exact rowsA_flat _
        rw [eE, eV, eS, aIf_pos rfl, aIf_neg (decide_eq_false (show ¬ (a : Int) < 0 by omega)), pow_val ha, hp, Int.toNat_natCast, cast_pow, aIf_pos (by simp only [beq_self_eq_true, Bool.and_self]), aIf_pos (beq_self_eq_true _), aIf_pos (decide_eq_true (by rw [eL]; omega)), aIf_pos eF, ← chunk_rows]
        rfl
    · exact .inl fun k => by rw [aIf_neg hp]
  · exact .inl fun k => rfl
theorem En49 : Enters Try.prog 49 := ⟨_, Try.func49, by decide, rfl⟩

/-- ferryman/ferrymanref09.Right -/
noncomputable def T64 : List (FuncId × FSpec) := []
theorem T64_ok : TabOK Try.prog T64 := TabOK.nil _
noncomputable def C64 : Ctx := (ctx E T64 [] [(0, [1]), (1, [2])] [] 33 70)
theorem C64_ok : CtxOK Try.prog C64 := ctx_ok E_ok E_flds mixed T64_ok
noncomputable def B64 : FSpec := inlineK C64 Try.f64
noncomputable def S64 : FSpec := fun args H k => match args, H with
  | [.agg [.int .i64 a, .int .i64 b, .int .u16 x]], [] => aIf (psetB a b x) (k (.ret (.bool (right a b x))) []) none
  | _, _ => none
theorem B64_ok : SpecOK Try.prog 64 B64 := inlineK_ok C64_ok Try.func64 (fun _ _ => LoopsOK.none _)
theorem N64 (a b x : Int) (k : KE) : B64 [.agg [.int .i64 a, .int .i64 b, .int .u16 x]] [] k =
    aIf (decide (a ≥ 0))
  (aIf (decide (a ≤ 15))
    (aIf (decide (b ≥ 0))
      (aIf (decide (b ≤ IntKind.i64.wrap (16 - a)))
        (aIf (decide (b < 0)) none
          (k (AEnd.ret (AV.bool (decide (IntKind.i64.wrap x < IntKind.i64.wrap (1 * 2 ^ min b.toNat 64))))) []))
        (k (AEnd.ret (AV.bool false)) []))
      (k (AEnd.ret (AV.bool false)) []))
    (k (AEnd.ret (AV.bool false)) []))
  (k (AEnd.ret (AV.bool false)) []) := by kernel_rfl
theorem S64_ok : SpecOK Try.prog 64 S64 := by
  refine B64_ok.turn fun args H => ?_
  unfold S64
  split
  · rename_i a b x
    rcases Bool.eq_false_or_eq_true (psetB a b x) with hp | hp
    · refine .inr fun k => ?_
      rw [aIf_pos hp, N64]
      exact right_law hp k
    · exact .inl fun k => by rw [aIf_neg hp]
  · exact .inl fun k => rfl
theorem En64 : Enters Try.prog 64 := ⟨_, Try.func64, by decide, rfl⟩

/-- ferryman/ferrymanref09.a -/
noncomputable def T66 : List (FuncId × FSpec) := []
theorem T66_ok : TabOK Try.prog T66 := TabOK.nil _
noncomputable def C66 : Ctx := (ctx E T66 [] [(0, [0, 1]), (1, [4])] [] 10 70)
theorem C66_ok : CtxOK Try.prog C66 := ctx_ok E_ok E_flds mixed T66_ok
noncomputable def B66 : FSpec := inlineK C66 Try.f66
noncomputable def S66 : FSpec := fun args H k => match args, H with
  | [.int .i64 a, .int .u16 x], [] => aIf (offB a x) (k (.ret (.int .i64 (x / 2 ^ (16 - a).toNat))) []) none
  | _, _ => none
theorem B66_ok : SpecOK Try.prog 66 B66 := inlineK_ok C66_ok Try.func66 (fun _ _ => LoopsOK.none _)
theorem N66 (a x : Int) (k : KE) : B66 [.int .i64 a, .int .u16 x] [] k =
    aIf (decide (IntKind.i64.wrap (16 - a) < 0)) none
  (k (AEnd.ret (AV.int IntKind.i64 ((IntKind.i64.wrap x).fdiv (2 ^ min (IntKind.i64.wrap (16 - a)).toNat 64)))) []) := by kernel_rfl
theorem S66_ok : SpecOK Try.prog 66 S66 := by
  refine B66_ok.turn fun args H => ?_
  unfold S66
  split
  · rename_i a x
    rcases Bool.eq_false_or_eq_true (offB a x) with hp | hp
    · refine .inr fun k => ?_
      rw [aIf_pos hp, N66]
      exact a_law hp k
    · exact .inl fun k => by rw [aIf_neg hp]
  · exact .inl fun k => rfl
theorem En66 : Enters Try.prog 66 := ⟨_, Try.func66, by decide, rfl⟩

/-- ferryman/ferrymanref09.Of -/
noncomputable def T45 : List (FuncId × FSpec) := [(64, S64), (66, S66)]
theorem T45_ok : TabOK Try.prog T45 := TabOK.cons En64 S64_ok (TabOK.cons En66 S66_ok (TabOK.nil _))
noncomputable def C45 : Ctx := (ctx E T45 [] [(0, [0, 1, 2]), (1, [0, 1, 2, 13]), (2, [6, 7, 8]), (3, [0, 1, 2, 21]), (4, [6, 7, 8]), (5, [6, 7, 8])] [] 33 70)
theorem C45_ok : CtxOK Try.prog C45 := ctx_ok E_ok E_flds mixed T45_ok
noncomputable def B45 : FSpec := inlineK C45 Try.f45
noncomputable def S45 : FSpec := fun args H k => match args, H with
  | [.int .i64 a, .int .i64 b, .int .u16 x], [] => aIf (psetB a b x) (aIf (right a b 0) (aIf (mine a x) (k (.ret (.tup [.int .u16 (psid a b x), .bool true, .int .i64 0])) []) (k (.ret (.tup [.int .u16 0, .bool false, .int .i64 0])) [])) (k (.ret (.tup [.int .u16 0, .bool false, .int .i64 90])) [])) none
  | _, _ => none
theorem B45_ok : SpecOK Try.prog 45 B45 := inlineK_ok C45_ok Try.func45 (fun _ _ => LoopsOK.none _)
theorem N45 (a b x : Int) (k : KE) : B45 [.int .i64 a, .int .i64 b, .int .u16 x] [] k =
    aIf (Pl.psetB a b 0)
  (aIf (!Pl.right a b 0) (k (AEnd.ret (AV.tup [AV.int IntKind.u16 0, AV.bool false, AV.int IntKind.i64 90])) [])
    (aIf (decide (a > 0))
      (aIf (Pl.offB a x)
        (aIf (x / 2 ^ (16 - a).toNat == 0)
          (k (AEnd.ret (AV.tup [AV.int IntKind.u16 0, AV.bool false, AV.int IntKind.i64 0])) [])
          (aIf (decide (IntKind.i64.wrap (IntKind.i64.wrap (16 - a) - b) < 0)) none
            (aIf (decide (b < 0)) none
              (aIf (IntKind.i64.wrap (1 * 2 ^ min b.toNat 64) == 0) none
                (k
                  (AEnd.ret
                    (AV.tup
                      [AV.int IntKind.u16
                          (IntKind.u16.wrap
                            (((IntKind.i64.wrap x).fdiv
                                  (2 ^ min (IntKind.i64.wrap (IntKind.i64.wrap (16 - a) - b)).toNat 64)).tmod
                              (IntKind.i64.wrap (1 * 2 ^ min b.toNat 64)))),
                        AV.bool true, AV.int IntKind.i64 0]))
                  [])))))
        none)
      (aIf (decide (IntKind.i64.wrap (IntKind.i64.wrap (16 - a) - b) < 0)) none
        (aIf (decide (b < 0)) none
          (aIf (IntKind.i64.wrap (1 * 2 ^ min b.toNat 64) == 0) none
            (k
              (AEnd.ret
                (AV.tup
                  [AV.int IntKind.u16
                      (IntKind.u16.wrap
                        (((IntKind.i64.wrap x).fdiv
                              (2 ^ min (IntKind.i64.wrap (IntKind.i64.wrap (16 - a) - b)).toNat 64)).tmod
                          (IntKind.i64.wrap (1 * 2 ^ min b.toNat 64)))),
                    AV.bool true, AV.int IntKind.i64 0]))
              []))))))
  none := by kernel_rfl
theorem S45_ok : SpecOK Try.prog 45 S45 := by
  refine B45_ok.turn fun args H => ?_
  unfold S45
  split
  · rename_i a b x
    rcases Bool.eq_false_or_eq_true (psetB a b x) with hp | hp
    · refine .inr fun k => ?_
      rw [aIf_pos hp, N45]
      exact of_ref hp k
    · exact .inl fun k => by rw [aIf_neg hp]
  · exact .inl fun k => rfl
theorem En45 : Enters Try.prog 45 := ⟨_, Try.func45, by decide, rfl⟩

/-- ferryman/ferrymanref09.Has -/
noncomputable def T46 : List (FuncId × FSpec) := [(45, S45), (64, S64)]
theorem T46_ok : TabOK Try.prog T46 := TabOK.cons En45 S45_ok (TabOK.cons En64 S64_ok (TabOK.nil _))
noncomputable def C46 : Ctx := (ctx E T46 [] [(0, [1, 2]), (1, [1, 2, 11]), (2, [4, 5]), (3, [2, 6, 7]), (4, [4, 5])] [] 29 70)
theorem C46_ok : CtxOK Try.prog C46 := ctx_ok E_ok E_flds mixed T46_ok
noncomputable def B46 : FSpec := inlineK C46 Try.f46
noncomputable def S46 : FSpec := fun args H k => match args, H with
  | [.agg [.int .i64 a, .int .i64 b, .int .u16 p], .int .u16 x], [] => aIf (psetB a b p && psetB a b x) (aIf (right a b p) (k (.ret (.tup [.bool (mine a x && (psid a b x == p)), .int .i64 0])) []) (k (.ret (.tup [.bool false, .int .i64 90])) [])) none
  | _, _ => none
theorem B46_ok : SpecOK Try.prog 46 B46 := inlineK_ok C46_ok Try.func46 (fun _ _ => LoopsOK.none _)
theorem N46 (a b p x : Int) (k : KE) : B46 [.agg [.int .i64 a, .int .i64 b, .int .u16 p], .int .u16 x] [] k =
    aIf (Pl.psetB a b p)
  (aIf (!Pl.right a b p) (k (AEnd.ret (AV.tup [AV.bool false, AV.int IntKind.i64 90])) [])
    (aIf (Pl.psetB a b x)
      (aIf (Pl.right a b 0)
        (aIf (Pl.mine a x) (k (AEnd.ret (AV.tup [AV.bool (Pl.psid a b x == p), AV.int IntKind.i64 0])) [])
          (k (AEnd.ret (AV.tup [AV.bool false, AV.int IntKind.i64 0])) []))
        (k (AEnd.ret (AV.tup [AV.bool false, AV.int IntKind.i64 0])) []))
      none))
  none := by kernel_rfl
theorem S46_ok : SpecOK Try.prog 46 S46 := by
  refine B46_ok.turn fun args H => ?_
  unfold S46
  split
  · rename_i a b p x
    rcases Bool.eq_false_or_eq_true (psetB a b p && psetB a b x) with hp | hp
    · refine .inr fun k => ?_
      rw [aIf_pos hp, N46]
      exact has_ref hp k
    · exact .inl fun k => by rw [aIf_neg hp]
  · exact .inl fun k => rfl
theorem En46 : Enters Try.prog 46 := ⟨_, Try.func46, by decide, rfl⟩

/-- ferryman/ferrymanref09.Runs -/
noncomputable def T50 : List (FuncId × FSpec) := [(46, S46), (64, S64)]
theorem T50_ok : TabOK Try.prog T50 := TabOK.cons En46 S46_ok (TabOK.cons En64 S64_ok (TabOK.nil _))
noncomputable def L50_6 : ATs → AH → KC → Res := fun ts H k => match ts, H with
  | [(1, .ptr 0 0 0), (4, .fs 0 [] .nil), (5, .bool t), (6, .int .i64 i)], [.cells 0 [.int .i64 a, .int .i64 b, .int .u16 p]] => aIf (i == 0 && !t && psetB a b p && right a b p) (k (.exit 0) [(1, .ptr 0 0 0), (4, .sl 1 (2 * (runsR a b p).length) 0 (runsR a b p).length 2), (5, .bool (runsW a b p)), (6, .int .i64 65536), (13, .bool false)] [.cells 0 [.int .i64 a, .int .i64 b, .int .u16 p], .cells (2 * (runsR a b p).length) (rowsA (runsR a b p))]) none
  | _, _ => none
noncomputable def C50 : Ctx := (ctx E T50 [(6, L50_6)] [(0, [1]), (1, [1, 11]), (2, [2, 3]), (3, [1, 4]), (4, [1, 4, 5]), (5, [1, 4, 5, 6]), (6, [1, 4, 5, 6, 13]), (7, [1, 4, 5, 6]), (8, [1, 4, 5, 6, 7]), (9, [1, 4, 5, 6, 7, 26]), (10, [1, 4, 5, 6, 7]), (11, [1, 4, 6, 7, 39]), (12, [1, 4, 6, 7]), (13, [1, 4, 5, 6]), (14, [2, 3]), (1000006, [1, 4, 5, 6])] [] 50 70)
theorem C50_ok : CtxOK Try.prog C50 := ctx_ok E_ok E_flds mixed T50_ok
theorem C50_l0 : C50.loop (loopId (loopB Try.f50 0)) = some L50_6 := by kernel_rfl
theorem L50_6_in : LoopsOK C50 (loopB Try.f50 0) := LoopsOK.within 0 (by kernel_rfl) (fun j hj S hS => by
  omega)
theorem M50_6a (t : Bool) (i a b p : Int) (k : KC) : headedK C50 (loopB Try.f50 0) [(1, .ptr 0 0 0), (4, .fs 0 [] .nil), (5, .bool t), (6, .int .i64 i)] [.cells 0 [.int .i64 a, .int .i64 b, .int .u16 p]] k =
  aIf (decide (i ≤ 65535)) (aIf (Pl.psetB a b p && Pl.psetB a b (IntKind.u16.wrap i)) (aIf (Pl.right a b p) (aIf (Pl.mine a (IntKind.u16.wrap i) && Pl.psid a b (IntKind.u16.wrap i) == p) (aIf t none (aIf (Pl.mine a (IntKind.u16.wrap i) && Pl.psid a b (IntKind.u16.wrap i) == p) (aIf (!t) (k AExit.normal [(1, AV.ptr 0 0 0), (4, AV.sl 1 2 0 1 2), (5, AV.bool (Pl.mine a (IntKind.u16.wrap i) && Pl.psid a b (IntKind.u16.wrap i) == p)), (6, AV.int IntKind.i64 (IntKind.i64.wrap (i + 1)))] [AO.cells 0 [AV.int IntKind.i64 a, AV.int IntKind.i64 b, AV.int IntKind.u16 p], AO.cells 2 [AV.int IntKind.u16 (IntKind.u16.wrap i), AV.int IntKind.u16 (IntKind.u16.wrap i)]]) (k AExit.normal [(1, AV.ptr 0 0 0), (4, AV.fs 0 [] SF.nil), (5, AV.bool (Pl.mine a (IntKind.u16.wrap i) && Pl.psid a b (IntKind.u16.wrap i) == p)), (6, AV.int IntKind.i64 (IntKind.i64.wrap (i + 1)))] [AO.cells 0 [AV.int IntKind.i64 a, AV.int IntKind.i64 b, AV.int IntKind.u16 p]])) (k AExit.normal [(1, AV.ptr 0 0 0), (4, AV.fs 0 [] SF.nil), (5, AV.bool (Pl.mine a (IntKind.u16.wrap i) && Pl.psid a b (IntKind.u16.wrap i) == p)), (6, AV.int IntKind.i64 (IntKind.i64.wrap (i + 1)))] [AO.cells 0 [AV.int IntKind.i64 a, AV.int IntKind.i64 b, AV.int IntKind.u16 p]]))) (aIf (Pl.mine a (IntKind.u16.wrap i) && Pl.psid a b (IntKind.u16.wrap i) == p) (aIf (!t) (k AExit.normal [(1, AV.ptr 0 0 0), (4, AV.sl 1 2 0 1 2), (5, AV.bool (Pl.mine a (IntKind.u16.wrap i) && Pl.psid a b (IntKind.u16.wrap i) == p)), (6, AV.int IntKind.i64 (IntKind.i64.wrap (i + 1)))] [AO.cells 0 [AV.int IntKind.i64 a, AV.int IntKind.i64 b, AV.int IntKind.u16 p], AO.cells 2 [AV.int IntKind.u16 (IntKind.u16.wrap i), AV.int IntKind.u16 (IntKind.u16.wrap i)]]) (k AExit.normal [(1, AV.ptr 0 0 0), (4, AV.fs 0 [] SF.nil), (5, AV.bool (Pl.mine a (IntKind.u16.wrap i) && Pl.psid a b (IntKind.u16.wrap i) == p)), (6, AV.int IntKind.i64 (IntKind.i64.wrap (i + 1)))] [AO.cells 0 [AV.int IntKind.i64 a, AV.int IntKind.i64 b, AV.int IntKind.u16 p]])) (k AExit.normal [(1, AV.ptr 0 0 0), (4, AV.fs 0 [] SF.nil), (5, AV.bool (Pl.mine a (IntKind.u16.wrap i) && Pl.psid a b (IntKind.u16.wrap i) == p)), (6, AV.int IntKind.i64 (IntKind.i64.wrap (i + 1)))] [AO.cells 0 [AV.int IntKind.i64 a, AV.int IntKind.i64 b, AV.int IntKind.u16 p]]))) (k AExit.normal [(1, AV.ptr 0 0 0), (4, AV.fs 0 [] SF.nil), (5, AV.bool false), (6, AV.int IntKind.i64 (IntKind.i64.wrap (i + 1)))] [AO.cells 0 [AV.int IntKind.i64 a, AV.int IntKind.i64 b, AV.int IntKind.u16 p]])) none) (k (AExit.exit 0) [(1, AV.ptr 0 0 0), (4, AV.fs 0 [] SF.nil), (5, AV.bool t), (6, AV.int IntKind.i64 i), (13, AV.bool (decide (i ≤ 65535)))] [AO.cells 0 [AV.int IntKind.i64 a, AV.int IntKind.i64 b, AV.int IntKind.u16 p]]) := by kernel_rfl
theorem M50_6b (v l : Nat) (t : Bool) (i a b p : Int) (w : Nat) (cs : List AV) (k : KC) : headedK C50 (loopB Try.f50 0) [(1, .ptr 0 0 0), (4, .sl 1 v 0 l 2), (5, .bool t), (6, .int .i64 i)] [.cells 0 [.int .i64 a, .int .i64 b, .int .u16 p], .cells w cs] k =
  aIf (decide (i ≤ 65535)) (aIf (Pl.psetB a b p && Pl.psetB a b (IntKind.u16.wrap i)) (aIf (Pl.right a b p) (aIf (Pl.mine a (IntKind.u16.wrap i) && Pl.psid a b (IntKind.u16.wrap i) == p) (aIf t (aIf (decide (0 ≤ IntKind.i64.wrap ((↑l : Int) - 1))) (aIf (decide (IntKind.i64.wrap ((↑l : Int) - 1) < (↑l : Int))) (aIf (w == v) (aIf (decide (0 + (IntKind.i64.wrap ((↑l : Int) - 1)).toNat * 2 + 1 + 1 ≤ cs.length)) (aIf (Pl.mine a (IntKind.u16.wrap i) && Pl.psid a b (IntKind.u16.wrap i) == p) (aIf (!t) (aIf (v == 0) none (aIf (v == v) (aIf (((l + 1) * 4).ble 140737488355328) (k AExit.normal [(1, AV.ptr 0 0 0), (4, AV.sl 1 (max v ((l + 1) * 2)) 0 (l + 1) 2), (5, AV.bool (Pl.mine a (IntKind.u16.wrap i) && Pl.psid a b (IntKind.u16.wrap i) == p)), (6, AV.int IntKind.i64 (IntKind.i64.wrap (i + 1)))] [AO.cells 0 [AV.int IntKind.i64 a, AV.int IntKind.i64 b, AV.int IntKind.u16 p], AO.cells (max v ((l + 1) * 2)) (List.take (l * 2) (cs.set (0 + (IntKind.i64.wrap ((↑l : Int) - 1)).toNat * 2 + 1) (AV.int IntKind.u16 (IntKind.u16.wrap i))) ++ [AV.int IntKind.u16 (IntKind.u16.wrap i), AV.int IntKind.u16 (IntKind.u16.wrap i)] ++ List.drop (l * 2 + 2) (cs.set (0 + (IntKind.i64.wrap ((↑l : Int) - 1)).toNat * 2 + 1) (AV.int IntKind.u16 (IntKind.u16.wrap i))))]) none) none)) (k AExit.normal [(1, AV.ptr 0 0 0), (4, AV.sl 1 v 0 l 2), (5, AV.bool (Pl.mine a (IntKind.u16.wrap i) && Pl.psid a b (IntKind.u16.wrap i) == p)), (6, AV.int IntKind.i64 (IntKind.i64.wrap (i + 1)))] [AO.cells 0 [AV.int IntKind.i64 a, AV.int IntKind.i64 b, AV.int IntKind.u16 p], AO.cells v (cs.set (0 + (IntKind.i64.wrap ((↑l : Int) - 1)).toNat * 2 + 1) (AV.int IntKind.u16 (IntKind.u16.wrap i)))])) (k AExit.normal [(1, AV.ptr 0 0 0), (4, AV.sl 1 v 0 l 2), (5, AV.bool (Pl.mine a (IntKind.u16.wrap i) && Pl.psid a b (IntKind.u16.wrap i) == p)), (6, AV.int IntKind.i64 (IntKind.i64.wrap (i + 1)))] [AO.cells 0 [AV.int IntKind.i64 a, AV.int IntKind.i64 b, AV.int IntKind.u16 p], AO.cells v (cs.set (0 + (IntKind.i64.wrap ((↑l : Int) - 1)).toNat * 2 + 1) (AV.int IntKind.u16 (IntKind.u16.wrap i)))])) none) none) none) none) (aIf (Pl.mine a (IntKind.u16.wrap i) && Pl.psid a b (IntKind.u16.wrap i) == p) (aIf (!t) (aIf (v == 0) none (aIf (w == v) (aIf (((l + 1) * 4).ble 140737488355328) (k AExit.normal [(1, AV.ptr 0 0 0), (4, AV.sl 1 (max v ((l + 1) * 2)) 0 (l + 1) 2), (5, AV.bool (Pl.mine a (IntKind.u16.wrap i) && Pl.psid a b (IntKind.u16.wrap i) == p)), (6, AV.int IntKind.i64 (IntKind.i64.wrap (i + 1)))] [AO.cells 0 [AV.int IntKind.i64 a, AV.int IntKind.i64 b, AV.int IntKind.u16 p], AO.cells (max v ((l + 1) * 2)) (List.take (l * 2) cs ++ [AV.int IntKind.u16 (IntKind.u16.wrap i), AV.int IntKind.u16 (IntKind.u16.wrap i)] ++ List.drop (l * 2 + 2) cs)]) none) none)) (k AExit.normal [(1, AV.ptr 0 0 0), (4, AV.sl 1 v 0 l 2), (5, AV.bool (Pl.mine a (IntKind.u16.wrap i) && Pl.psid a b (IntKind.u16.wrap i) == p)), (6, AV.int IntKind.i64 (IntKind.i64.wrap (i + 1)))] [AO.cells 0 [AV.int IntKind.i64 a, AV.int IntKind.i64 b, AV.int IntKind.u16 p], AO.cells w cs])) (k AExit.normal [(1, AV.ptr 0 0 0), (4, AV.sl 1 v 0 l 2), (5, AV.bool (Pl.mine a (IntKind.u16.wrap i) && Pl.psid a b (IntKind.u16.wrap i) == p)), (6, AV.int IntKind.i64 (IntKind.i64.wrap (i + 1)))] [AO.cells 0 [AV.int IntKind.i64 a, AV.int IntKind.i64 b, AV.int IntKind.u16 p], AO.cells w cs]))) (aIf (Pl.mine a (IntKind.u16.wrap i) && Pl.psid a b (IntKind.u16.wrap i) == p) (aIf (!t) (aIf (v == 0) none (aIf (w == v) (aIf (((l + 1) * 4).ble 140737488355328) (k AExit.normal [(1, AV.ptr 0 0 0), (4, AV.sl 1 (max v ((l + 1) * 2)) 0 (l + 1) 2), (5, AV.bool (Pl.mine a (IntKind.u16.wrap i) && Pl.psid a b (IntKind.u16.wrap i) == p)), (6, AV.int IntKind.i64 (IntKind.i64.wrap (i + 1)))] [AO.cells 0 [AV.int IntKind.i64 a, AV.int IntKind.i64 b, AV.int IntKind.u16 p], AO.cells (max v ((l + 1) * 2)) (List.take (l * 2) cs ++ [AV.int IntKind.u16 (IntKind.u16.wrap i), AV.int IntKind.u16 (IntKind.u16.wrap i)] ++ List.drop (l * 2 + 2) cs)]) none) none)) (k AExit.normal [(1, AV.ptr 0 0 0), (4, AV.sl 1 v 0 l 2), (5, AV.bool (Pl.mine a (IntKind.u16.wrap i) && Pl.psid a b (IntKind.u16.wrap i) == p)), (6, AV.int IntKind.i64 (IntKind.i64.wrap (i + 1)))] [AO.cells 0 [AV.int IntKind.i64 a, AV.int IntKind.i64 b, AV.int IntKind.u16 p], AO.cells w cs])) (k AExit.normal [(1, AV.ptr 0 0 0), (4, AV.sl 1 v 0 l 2), (5, AV.bool (Pl.mine a (IntKind.u16.wrap i) && Pl.psid a b (IntKind.u16.wrap i) == p)), (6, AV.int IntKind.i64 (IntKind.i64.wrap (i + 1)))] [AO.cells 0 [AV.int IntKind.i64 a, AV.int IntKind.i64 b, AV.int IntKind.u16 p], AO.cells w cs]))) (k AExit.normal [(1, AV.ptr 0 0 0), (4, AV.sl 1 v 0 l 2), (5, AV.bool false), (6, AV.int IntKind.i64 (IntKind.i64.wrap (i + 1)))] [AO.cells 0 [AV.int IntKind.i64 a, AV.int IntKind.i64 b, AV.int IntKind.u16 p], AO.cells w cs])) none) (k (AExit.exit 0) [(1, AV.ptr 0 0 0), (4, AV.sl 1 v 0 l 2), (5, AV.bool t), (6, AV.int IntKind.i64 i), (13, AV.bool (decide (i ≤ 65535)))] [AO.cells 0 [AV.int IntKind.i64 a, AV.int IntKind.i64 b, AV.int IntKind.u16 p], AO.cells w cs]) := by kernel_rfl
theorem L50_6_ok : LoopSum C50 (loopB Try.f50 0) L50_6 := LoopSum.of C50_ok L50_6_in (fun ts H => by
  unfold L50_6
  split
  · rename_i t i a b p
    rcases Bool.eq_false_or_eq_true (i == 0 && !t && psetB a b p && right a b p) with hp | hp
    · refine .inr ?_
      simp only [aIf_pos hp]
      simp only [Bool.and_eq_true, beq_iff_eq, Bool.not_eq_true'] at hp
      obtain ⟨⟨⟨rfl, rfl⟩, hp⟩, hr⟩ := hp
      obtain ⟨a, b, p, rfl, rfl, rfl, ha, hb, hpb⟩ := right_nats hp hr
      have ti : ∀ k n, (AV.int k n).toInt = n := fun _ _ => rfl
      have key : ∀ (j : Nat) (d : List (Nat × Nat) × Bool), j < 65536 → ((d.1 = [] → d.2 = false) ∧ d.1.length ≤ j) → (((lookR (memP a b p) j d).1 = [] → (lookR (memP a b p) j d).2 = false) ∧ (lookR (memP a b p) j d).1.length ≤ j + 1) ∧
          ∀ k, headedK C50 (loopB Try.f50 0) [(1, .ptr 0 0 0), (4, slD d.1), (5, .bool d.2), (6, .int .i64 ((j : Nat) : Int))] (hpD (.cells 0 [.int .i64 (a : Int), .int .i64 (b : Int), .int .u16 (p : Int)]) d.1) k = k .normal [(1, .ptr 0 0 0), (4, slD (lookR (memP a b p) j d).1), (5, .bool (lookR (memP a b p) j d).2), (6, .int .i64 ((j + 1 : Nat) : Int))] (hpD (.cells 0 [.int .i64 (a : Int), .int .i64 (b : Int), .int .u16 (p : Int)]) (lookR (memP a b p) j d).1) := by
        intro j d hj hI
        obtain ⟨l, t⟩ := d
        have hw : IntKind.u16.wrap (j : Int) = (j : Int) := u16_of (by omega) (by omega)
        have hn1 : IntKind.i64.wrap ((j : Int) + 1) = ((j + 1 : Nat) : Int) := by rw [i64_of (by omega) (by omega)]; omega
        have hpj : psetB (a : Int) (b : Int) (j : Int) = true := psetB_nat ha hb (by omega)
        have hm := has_nat (x := j) hr
        unfold hasB at hm
        rw [hr, Bool.true_and] at hm
        have hjd : decide ((j : Int) ≤ 65535) = true := decide_eq_true (by omega)
        rcases List.eq_nil_or_concat l with rfl | ⟨l', q, rfl⟩
        · obtain rfl := hI.1 rfl
          cases hc : memP a b p j with
          | true =>
            have e : lookR (memP a b p) j ([], false) = ([(j, j)], true) := by unfold lookR; rw [hc]; rfl
            rw [e]
            refine ⟨⟨fun h => (by cases h), by simp⟩, fun k => ?_⟩
            show headedK C50 (loopB Try.f50 0) [(1, .ptr 0 0 0), (4, .fs 0 [] .nil), (5, .bool false), (6, .int .i64 (j : Int))] [.cells 0 [.int .i64 (a : Int), .int .i64 (b : Int), .int .u16 (p : Int)]] k = _
            rw [M50_6a]
            simp only [hw, hn1, hp, hr, hpj, hm, hc, hjd, Bool.and_self, aIf_true, aIf_false, Bool.not_false]
            rfl
          | false =>
            have e : lookR (memP a b p) j ([], false) = ([], false) := by unfold lookR; rw [hc]; rfl
            rw [e]
            refine ⟨⟨fun _ => rfl, by simp⟩, fun k => ?_⟩
            show headedK C50 (loopB Try.f50 0) [(1, .ptr 0 0 0), (4, .fs 0 [] .nil), (5, .bool false), (6, .int .i64 (j : Int))] [.cells 0 [.int .i64 (a : Int), .int .i64 (b : Int), .int .u16 (p : Int)]] k = _
            rw [M50_6a]
            simp only [hw, hn1, hp, hr, hpj, hm, hc, hjd, Bool.and_self, aIf_true, aIf_false]
            rfl
        · rw [List.concat_eq_append] at hI ⊢
          have hlen : (l' ++ [q]).length = l'.length + 1 := by rw [List.length_append]; rfl
          have hI2 := hI.2
          rw [hlen] at hI2
          have e1 : IntKind.i64.wrap (((l'.length + 1 : Nat) : Int) - 1) = (l'.length : Int) := by rw [i64_of (by omega) (by omega)]; omega
          have e2 : 0 + l'.length * 2 + 1 = 2 * l'.length + 1 := by omega
          have e3 := rowsA_length (l' ++ [q])
          rw [hlen] at e3
          have e7 : ((l'.length + 1 + 1) * 4).ble 140737488355328 = true := by rw [Nat.ble_eq]; omega
          have e8 : (2 * (l'.length + 1) == 0) = false := beq_eq_false_iff_ne.2 (by omega)
          have e9 : max (2 * (l'.length + 1)) ((l'.length + 1 + 1) * 2) = 2 * (l'.length + 1 + 1) := by omega
          have e11 := rowsA_put (l' ++ [q]) j j
          rw [hlen] at e11
          show _ ∧ ∀ k, headedK C50 (loopB Try.f50 0) [(1, .ptr 0 0 0), (4, slD (l' ++ [q])), (5, .bool t), (6, .int .i64 (j : Int))] (hpD (.cells 0 [.int .i64 (a : Int), .int .i64 (b : Int), .int .u16 (p : Int)]) (l' ++ [q])) k = _
          rw [slD_snoc, hpD_snoc]
          cases hc : memP a b p j with
          | true =>
            cases t with
            | true =>
              have e : lookR (memP a b p) j (l' ++ [q], true) = (lastTo (l' ++ [q]) j, true) := by unfold lookR; rw [hc]; rfl
              rw [e]
              have hl2 : lastTo (l' ++ [q]) j = l' ++ [(q.1, j)] := lastTo_snoc _ _ _
              refine ⟨⟨fun h => (by rw [hl2] at h; simp at h), by show (lastTo (l' ++ [q]) j).length ≤ j + 1; rw [lastTo_length, hlen]; omega⟩, fun k => ?_⟩
              rw [M50_6b]
              simp only [hw, hn1, hp, hr, hpj, hm, hc, hjd, Bool.and_self, aIf_true, aIf_false, e1, Int.toNat_natCast, e2, beq_self_eq_true, decide_eq_true (show (0 : Int) ≤ (l'.length : Int) by omega), decide_eq_true (show (l'.length : Int) < ((l'.length + 1 : Nat) : Int) by omega),
                decide_eq_true (show 2 * l'.length + 1 + 1 ≤ (rowsA (l' ++ [q])).length by omega), rowsA_set, Bool.not_true]
              rw [hl2, slD_snoc, hpD_snoc]
            | false =>
              have e : lookR (memP a b p) j (l' ++ [q], false) = (l' ++ [q] ++ [(j, j)], true) := by unfold lookR; rw [hc]; rfl
              rw [e]
              refine ⟨⟨fun h => (by simp at h), by show (l' ++ [q] ++ [(j, j)]).length ≤ j + 1; rw [List.length_append, hlen]; simp; omega⟩, fun k => ?_⟩
              rw [M50_6b]
              simp only [hw, hn1, hp, hr, hpj, hm, hc, hjd, Bool.and_self, aIf_true, aIf_false, e7, e8, e9, e11, beq_self_eq_true, Bool.not_false]
              rw [slD_snoc, hpD_snoc, hlen]
          | false =>
            have e : lookR (memP a b p) j (l' ++ [q], t) = (l' ++ [q], false) := by unfold lookR; rw [hc]; rfl
            rw [e]
            refine ⟨⟨fun h => (by simp at h), by show (l' ++ [q]).length ≤ j + 1; rw [hlen]; omega⟩, fun k => ?_⟩
            rw [M50_6b]
            simp only [hw, hn1, hp, hr, hpj, hm, hc, hjd, Bool.and_self, aIf_true, aIf_false]
            rw [slD_snoc, hpD_snoc]
      have key3 : ∀ (d : List (Nat × Nat) × Bool) k, headedK C50 (loopB Try.f50 0) [(1, .ptr 0 0 0), (4, slD d.1), (5, .bool d.2), (6, .int .i64 ((65536 : Nat) : Int))] (hpD (.cells 0 [.int .i64 (a : Int), .int .i64 (b : Int), .int .u16 (p : Int)]) d.1) k = k (.exit 0) [(1, .ptr 0 0 0), (4, slD d.1), (5, .bool d.2), (6, .int .i64 65536), (13, .bool false)] (hpD (.cells 0 [.int .i64 (a : Int), .int .i64 (b : Int), .int .u16 (p : Int)]) d.1) := by
        intro d k
        obtain ⟨l, t⟩ := d
        rcases List.eq_nil_or_concat l with rfl | ⟨l', q, rfl⟩
        · show headedK C50 (loopB Try.f50 0) [(1, .ptr 0 0 0), (4, .fs 0 [] .nil), (5, .bool t), (6, .int .i64 65536)] [.cells 0 [.int .i64 (a : Int), .int .i64 (b : Int), .int .u16 (p : Int)]] k = _
          rw [M50_6a]; rfl
        · rw [List.concat_eq_append]
          show headedK C50 (loopB Try.f50 0) [(1, .ptr 0 0 0), (4, slD (l' ++ [q])), (5, .bool t), (6, .int .i64 65536)] (hpD (.cells 0 [.int .i64 (a : Int), .int .i64 (b : Int), .int .u16 (p : Int)]) (l' ++ [q])) k = k (.exit 0) [(1, .ptr 0 0 0), (4, slD (l' ++ [q])), (5, .bool t), (6, .int .i64 65536), (13, .bool false)] (hpD (.cells 0 [.int .i64 (a : Int), .int .i64 (b : Int), .int .u16 (p : Int)]) (l' ++ [q]))
          rw [slD_snoc, hpD_snoc, M50_6b]; rfl
      obtain ⟨m, hm⟩ := iter_fold (δ := List (Nat × Nat) × Bool) (N := 65536) (F := headedK C50 (loopB Try.f50 0)) (ts := fun j d => [(1, .ptr 0 0 0), (4, slD d.1), (5, .bool d.2), (6, .int .i64 ((j : Nat) : Int))]) (H := fun _ d => hpD (.cells 0 [.int .i64 (a : Int), .int .i64 (b : Int), .int .u16 (p : Int)]) d.1) (f := lookR (memP a b p)) (I := fun j d => (d.1 = [] → d.2 = false) ∧ d.1.length ≤ j) (ee := .exit 0) (te := fun d => [(1, .ptr 0 0 0), (4, slD d.1), (5, .bool d.2), (6, .int .i64 65536), (13, .bool false)]) (He := fun d => hpD (.cells 0 [.int .i64 (a : Int), .int .i64 (b : Int), .int .u16 (p : Int)]) d.1)
        (fun j d hj hI => key j d hj hI) (fun d _ k => key3 d k) (by intro h; cases h) 65536 0 ([], false) rfl ⟨fun _ => rfl, Nat.le_refl _⟩
      refine ⟨m, fun k => ?_⟩
      have h2 := hm k
      have hall : (foldF (lookR (memP a b p)) 65536 0 ([], false)).1 = runsR (a : Int) (b : Int) (p : Int) := rows_all hb hpb
      have hW : (foldF (lookR (memP a b p)) 65536 0 ([], false)).2 = runsW (a : Int) (b : Int) (p : Int) := rfl
      obtain ⟨l, q, hlq⟩ := runsR_ne (a := a) (b := b) (p := p)
      rw [hall, hW, hlq, slD_snoc, hpD_snoc] at h2
      rw [hlq, show (l ++ [q]).length = l.length + 1 by rw [List.length_append]; rfl]
      exact h2.symm
    · exact .inl fun k => by rw [aIf_neg hp]
  · exact .inl fun k => rfl)
theorem C50_loops : ∀ c, Try.f50.body = some c → LoopsOK C50 c := LoopsOK.of 1 (by kernel_rfl) (fun j hj S hS => by
  match j, hj with
  | 0, _ => rw [C50_l0] at hS; cases hS; exact L50_6_ok
  | n + 1, hj => omega)
noncomputable def B50 : FSpec := inlineK C50 Try.f50
noncomputable def S50 : FSpec := fun args H k => match args, H with
  | [.agg [.int .i64 a, .int .i64 b, .int .u16 p]], [] => aIf (psetB a b p) (k (.ret (.tup [.fs 2 (runsV a b p) (runsS a b p), .int .i64 (ofE a b p)])) []) none
  | _, _ => none
theorem B50_ok : SpecOK Try.prog 50 B50 := inlineK_ok C50_ok Try.func50 C50_loops
theorem N50 (a b p : Int) (k : KE) : B50 [.agg [.int .i64 a, .int .i64 b, .int .u16 p]] [] k =
  aIf (Pl.psetB a b p) (aIf (!Pl.right a b p) (k (AEnd.ret (AV.tup [AV.fs 2 [] SF.nil, AV.int IntKind.i64 90])) []) (aIf (true && Pl.psetB a b p && Pl.right a b p) (aIf (2 * (Pl.runsR a b p).length == 2 * (Pl.runsR a b p).length) (aIf (decide (0 + (Pl.runsR a b p).length * 2 ≤ (Pl.rowsA (Pl.runsR a b p)).length)) (aIf (flatL (List.take ((Pl.runsR a b p).length * 2) (List.drop 0 (Pl.rowsA (Pl.runsR a b p))))) (k (AEnd.ret (AV.tup [AV.fs 2 (List.map (fun i => AV.agg (List.take 2 (List.drop (0 + i * 2) (Pl.rowsA (Pl.runsR a b p))))) (List.range (Pl.runsR a b p).length)) SF.any, AV.int IntKind.i64 0])) []) none) none) none) none)) none := by kernel_rfl
theorem S50_ok : SpecOK Try.prog 50 S50 := by
  refine B50_ok.turn fun args H => ?_
  unfold S50
  split
  · rename_i a b p
    rcases Bool.eq_false_or_eq_true (psetB a b p) with hp | hp
    · refine .inr fun k => ?_
      rw [aIf_pos hp, N50]
      rw [aIf_pos hp]
      cases hr : right a b p with
      | false => unfold runsV runsS ofE; rw [hr]; rfl
      | true =>
        obtain ⟨a, b, p, rfl, rfl, rfl, ha, hb, hpb⟩ := right_nats hp hr
        have eE : ofE (a : Int) (b : Int) (p : Int) = 0 := by unfold ofE; rw [hr]; rfl
        have eV : runsV (a : Int) (b : Int) (p : Int) = rowsE (runsR a b p) := by unfold runsV; rw [hr]; rfl
        have eS : runsS (a : Int) (b : Int) (p : Int) = .any := by unfold runsS; rw [hr]; rfl
        have eL := rowsA_length (runsR a b p)
        have eF : flatL (List.take ((runsR a b p).length * 2) (List.drop 0 (rowsA (runsR a b p)))) = true := by
          rw [List.drop_zero, List.take_of_length_le (by rw [eL]; omega)]; exact rowsA_flat _
        rw [eE, eV, eS, aIf_neg (show (!true) = false from rfl), hp, aIf_pos (by simp only [beq_self_eq_true, Bool.and_self]), aIf_pos (beq_self_eq_true _), aIf_pos (decide_eq_true (by rw [eL]; omega)), aIf_pos eF, ← chunk_rows]
        rfl
    · exact .inl fun k => by rw [aIf_neg hp]
  · exact .inl fun k => rfl
theorem En50 : Enters Try.prog 50 := ⟨_, Try.func50, by decide, rfl⟩

/-- ferryman/ferrymanref09.Same -/
noncomputable def T51 : List (FuncId × FSpec) := []
theorem T51_ok : TabOK Try.prog T51 := TabOK.nil _
noncomputable def L51_4 : ATs → AH → KC → Res := fun ts H k => match ts, H with
  | [(0, .fs 2 xs f1), (1, .fs 2 ys f2), (5, .int .i64 i)], [] => aIf (i == 0 && portsB xs && portsB ys && xs.length == ys.length && decide (xs.length ≤ 1000000)) (aIf (noneB (pairNe xs ys) xs.length 0) (k (.exit 0) [(0, .fs 2 xs f1), (1, .fs 2 ys f2), (5, .int .i64 (xs.length : Int)), (14, .bool false)] []) (k .ret [(4, .bool false)] [])) none
  | _, _ => none
noncomputable def C51 : Ctx := (ctx E T51 [(4, L51_4)] [(0, [0, 1]), (1, [0, 1, 10]), (2, [4]), (3, [0, 1, 5]), (4, [0, 1, 5, 14]), (5, [0, 1, 5]), (6, [0, 1, 5, 25]), (7, [4]), (8, [4]), (1000004, [0, 1, 5])] [] 26 70)
theorem C51_ok : CtxOK Try.prog C51 := ctx_ok E_ok E_flds mixed T51_ok
theorem C51_l0 : C51.loop (loopId (loopB Try.f51 0)) = some L51_4 := by kernel_rfl
theorem L51_4_in : LoopsOK C51 (loopB Try.f51 0) := LoopsOK.within 0 (by kernel_rfl) (fun j hj S hS => by
  omega)
theorem M51_4a (xs : List AV) (f1 : SF) (ys : List AV) (f2 : SF) (i : Int) (k : KC) : headedK C51 (loopB Try.f51 0) [(0, .fs 2 xs f1), (1, .fs 2 ys f2), (5, .int .i64 i)] [] k =
  aIf (decide (i < (↑xs.length : Int))) (aIf (decide (0 ≤ i)) (aIf (decide (i < (↑xs.length : Int))) (aIf ((xs.getD i.toNat AV.junk).cells.length == 2) (aIf (([(xs.getD i.toNat AV.junk).cells.getD 0 AV.junk, (xs.getD i.toNat AV.junk).cells.getD 1 AV.junk].getD 0 AV.junk).isInt IntKind.u16) (aIf (([(xs.getD i.toNat AV.junk).cells.getD 0 AV.junk, (xs.getD i.toNat AV.junk).cells.getD 1 AV.junk].getD 1 AV.junk).isInt IntKind.u16) (aIf (decide (0 ≤ i)) (aIf (decide (i < (↑ys.length : Int))) (aIf ((ys.getD i.toNat AV.junk).cells.length == 2) (aIf (([(ys.getD i.toNat AV.junk).cells.getD 0 AV.junk, (ys.getD i.toNat AV.junk).cells.getD 1 AV.junk].getD 0 AV.junk).isInt IntKind.u16) (aIf (([(ys.getD i.toNat AV.junk).cells.getD 0 AV.junk, (ys.getD i.toNat AV.junk).cells.getD 1 AV.junk].getD 1 AV.junk).isInt IntKind.u16) (aIf (!(([(xs.getD i.toNat AV.junk).cells.getD 0 AV.junk, (xs.getD i.toNat AV.junk).cells.getD 1 AV.junk].getD 0 AV.junk).toInt == ([(ys.getD i.toNat AV.junk).cells.getD 0 AV.junk, (ys.getD i.toNat AV.junk).cells.getD 1 AV.junk].getD 0 AV.junk).toInt && (([(xs.getD i.toNat AV.junk).cells.getD 0 AV.junk, (xs.getD i.toNat AV.junk).cells.getD 1 AV.junk].getD 1 AV.junk).toInt == ([(ys.getD i.toNat AV.junk).cells.getD 0 AV.junk, (ys.getD i.toNat AV.junk).cells.getD 1 AV.junk].getD 1 AV.junk).toInt && true))) (k AExit.ret [(4, AV.bool false)] []) (k AExit.normal [(0, AV.fs 2 xs f1), (1, AV.fs 2 ys f2), (5, AV.int IntKind.i64 (IntKind.i64.wrap (i + 1)))] [])) none) none) none) none) none) none) none) none) none) none) (k (AExit.exit 0) [(0, AV.fs 2 xs f1), (1, AV.fs 2 ys f2), (5, AV.int IntKind.i64 i), (14, AV.bool (decide (i < (↑xs.length : Int))))] []) := by kernel_rfl
theorem L51_4_ok : LoopSum C51 (loopB Try.f51 0) L51_4 := LoopSum.of C51_ok L51_4_in (fun ts H => by
  unfold L51_4
  split
  · rename_i xs f1 ys f2 i
    rcases Bool.eq_false_or_eq_true (i == 0 && portsB xs && portsB ys && xs.length == ys.length && decide (xs.length ≤ 1000000)) with hp | hp
    · refine .inr ?_
      simp only [aIf_pos hp]
      simp only [Bool.and_eq_true, beq_iff_eq, decide_eq_true_eq] at hp
      obtain ⟨⟨⟨⟨rfl, hx⟩, hy⟩, hl⟩, hL⟩ := hp
      have ti : ∀ k n, (AV.int k n).toInt = n := fun _ _ => rfl
      have key : ∀ j : Nat, j < xs.length → ∀ k, headedK C51 (loopB Try.f51 0) [(0, .fs 2 xs f1), (1, .fs 2 ys f2), (5, .int .i64 (j : Int))] [] k = aIf (pairNe xs ys j) (k .ret [(4, .bool false)] []) (k .normal [(0, .fs 2 xs f1), (1, .fs 2 ys f2), (5, .int .i64 ((j + 1 : Nat) : Int))] []) := by
        intro j hj k
        obtain ⟨u, v, e1⟩ := portsB_get hx hj
        obtain ⟨u', v', e2⟩ := portsB_get hy (show j < ys.length by omega)
        have hn1 : IntKind.i64.wrap ((j : Int) + 1) = ((j + 1 : Nat) : Int) := by rw [i64_of (by omega) (by omega)]; omega
        have e3 : pairNe xs ys j = !(u == u' && (v == v' && true)) := by unfold pairNe; rw [e1, e2, Bool.and_true]; rfl
        rw [M51_4a, Int.toNat_natCast, e1, e2, e3, hn1, decide_eq_true (show (j : Int) < (xs.length : Int) by omega), decide_eq_true (show (j : Int) < (ys.length : Int) by omega), decide_eq_true (show (0 : Int) ≤ (j : Int) by omega)]
        rfl
      exact (iter_scan (N := xs.length) (ts := fun j => [(0, .fs 2 xs f1), (1, .fs 2 ys f2), (5, .int .i64 (j : Int))]) (H := []) (b := pairNe xs ys) (fun j hj hb k => (key j hj k).trans (aIf_pos hb)) (fun j hj hb k => (key j hj k).trans (aIf_neg hb))
        (fun k => by rw [M51_4a, decide_eq_false (by omega), aIf_false]) (by intro h; cases h) (by intro h; cases h) xs.length 0 (by omega)).imp fun m hm k => (hm k).symm
    · exact .inl fun k => by rw [aIf_neg hp]
  · exact .inl fun k => rfl)
theorem C51_loops : ∀ c, Try.f51.body = some c → LoopsOK C51 c := LoopsOK.of 1 (by kernel_rfl) (fun j hj S hS => by
  match j, hj with
  | 0, _ => rw [C51_l0] at hS; cases hS; exact L51_4_ok
  | n + 1, hj => omega)
noncomputable def S51 : FSpec := inlineK C51 Try.f51
theorem S51_ok : SpecOK Try.prog 51 S51 := inlineK_ok C51_ok Try.func51 C51_loops
theorem En51 : Enters Try.prog 51 := ⟨_, Try.func51, by decide, rfl⟩

/-- ferryman/ferrymanlaw09.PortsetRuns -/
noncomputable def T14 : List (FuncId × FSpec) := [(35, S35), (49, S49), (50, S50), (51, S51)]
theorem T14_ok : TabOK Try.prog T14 := TabOK.cons En35 S35_ok (TabOK.cons En49 S49_ok (TabOK.cons En50 S50_ok (TabOK.cons En51 S51_ok (TabOK.nil _))))
noncomputable def C14 : Ctx := (ctx E T14 [] [(0, [1]), (1, [1, 3, 4]), (2, [3, 4, 5, 6]), (3, [2])] [] 28 70)
theorem C14_ok : CtxOK Try.prog C14 := ctx_ok E_ok E_flds mixed T14_ok
noncomputable def S14 : FSpec := inlineK C14 Try.f14
theorem S14_ok : SpecOK Try.prog 14 S14 := inlineK_ok C14_ok Try.func14 (fun _ _ => LoopsOK.none _)
theorem En14 : Enters Try.prog 14 := ⟨_, Try.func14, by decide, rfl⟩

end Go.Proofs.Ytkiipegoooldiaa

