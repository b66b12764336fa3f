/- The seat's program and its functions without a body. -/
import Derived.Test.YtbahknfffhijlaaGreatDoorEv3
import Derived.Test.YtbahknfffhijlaaGreatDoorChecked
import Derived.KernelRfl
namespace Go.Ab
open Go.Proofs
noncomputable section
noncomputable abbrev PP : Program := Tryz.prog
theorem seat_mixed : PP.follows .mixedOrders = true := by kernel_rfl
theorem seat_ok : progOk PP = true := by kernel_rfl
noncomputable abbrev RT : TypeId := 224
theorem seat_rt : dry PP (cutType "internal/reflectlite.rtype") = some RT := by kernel_rfl
theorem seat_typeOf : PrimAt PP 152 (typeOfA PP RT) := ext_at Tryz.func152 (by kernel_rfl) (by kernel_rfl) (by kernel_rfl) (e := Extern.ReflectliteType.typeOf) (by kernel_rfl) (by kernel_rfl) (sound_typeOf seat_rt)
theorem seat_valueOf : PrimAt PP 148 (valueOfA PP) := ext_at Tryz.func148 (by kernel_rfl) (by kernel_rfl) (by kernel_rfl) (e := fun args => Extern.ReflectliteValue.unpack (args.getD 0 (.tuple #[]))) (by kernel_rfl) (by kernel_rfl) sound_valueOf
theorem seat_vType : PrimAt PP 149 (vTypeA PP RT) := ext_at Tryz.func149 (by kernel_rfl) (by kernel_rfl) (by kernel_rfl) (e := Extern.ReflectliteValue.methodAny (Extern.ReflectliteValue.valueError "reflectlite.Value.Type" 0) fun t _ _ _ => Extern.ReflectliteType.toType t) (by kernel_rfl) (by kernel_rfl) (sound_vType seat_rt)
theorem seat_vNil : PrimAt PP 150 (vNilA PP) := ext_at Tryz.func150 (by kernel_rfl) (by kernel_rfl) (by kernel_rfl) (e := Extern.ReflectliteValue.method (Extern.ReflectliteValue.valueError "reflectlite.Value.IsNil" 0) Extern.ReflectliteValue.isNil) (by kernel_rfl) (by kernel_rfl) sound_vNil
theorem seat_vElem : PrimAt PP 155 (vElemA PP) := ext_at Tryz.func155 (by kernel_rfl) (by kernel_rfl) (by kernel_rfl) (e := Extern.ReflectliteValue.method (Extern.ReflectliteValue.valueError "reflectlite.Value.Elem" 0) Extern.ReflectliteValue.elem) (by kernel_rfl) (by kernel_rfl) sound_vElem
theorem seat_vSet : PrimAt PP 156 (vSetA PP) := ext_at Tryz.func156 (by kernel_rfl) (by kernel_rfl) (by kernel_rfl) (e := Extern.ReflectliteValue.set) (by kernel_rfl) (by kernel_rfl) sound_vSet
noncomputable abbrev eKind : Array Value → Sem Value := Extern.ReflectliteType.abiMethod fun t => do pure (.int .u8 (← Extern.Rtype.kind t))
theorem seat_kind : PrimAt PP 171 (dryA PP eKind) := ext_at Tryz.func171 (by kernel_rfl) (by kernel_rfl) (by kernel_rfl) (e := eKind) (by kernel_rfl) (by kernel_rfl) (sound_dry _)
noncomputable abbrev eAssign : Array Value → Sem Value := Extern.ReflectliteType.relation "AssignableTo" Extern.ReflectliteType.assignableTo
theorem seat_assign : PrimAt PP 182 (dryA PP eAssign) := ext_at Tryz.func182 (by kernel_rfl) (by kernel_rfl) (by kernel_rfl) (e := eAssign) (by kernel_rfl) (by kernel_rfl) (sound_dry _)
noncomputable abbrev eComp : Array Value → Sem Value := Extern.ReflectliteType.method fun t => do Extern.Rtype.noPackHeld "Comparable" t; pure (.bool (← typeInfo t).comparable)
theorem seat_comp : PrimAt PP 183 (dryA PP eComp) := ext_at Tryz.func183 (by kernel_rfl) (by kernel_rfl) (by kernel_rfl) (e := eComp) (by kernel_rfl) (by kernel_rfl) (sound_dry _)
noncomputable abbrev eElem : Array Value → Sem Value := Extern.ReflectliteType.method Extern.ReflectliteType.elem
theorem seat_elem : PrimAt PP 184 (dryA PP eElem) := ext_at Tryz.func184 (by kernel_rfl) (by kernel_rfl) (by kernel_rfl) (e := eElem) (by kernel_rfl) (by kernel_rfl) (sound_dry _)
noncomputable abbrev eImpl : Array Value → Sem Value := Extern.ReflectliteType.relation "Implements" Extern.ReflectliteType.implements_
theorem seat_impl : PrimAt PP 185 (dryA PP eImpl) := ext_at Tryz.func185 (by kernel_rfl) (by kernel_rfl) (by kernel_rfl) (e := eImpl) (by kernel_rfl) (by kernel_rfl) (sound_dry _)
theorem seat_over : PrimAt PP 57 (overlapsA PP 41) := ext_at Tryz.func57 (by kernel_rfl) (by kernel_rfl) (by kernel_rfl) (e := Extern.SlicesOverlaps.overlaps #[41, 41] #[4]) (by kernel_rfl) (by kernel_rfl) sound_overlaps
noncomputable def prims0 : PrimF := addP 57 (overlapsA PP 41) <| addP 152 (typeOfA PP RT) <| addP 148 (valueOfA PP) <| addP 149 (vTypeA PP RT) <| addP 150 (vNilA PP) <| addP 155 (vElemA PP) <| addP 156 (vSetA PP) <|
  addP 171 (dryA PP eKind) <| addP 182 (dryA PP eAssign) <| addP 183 (dryA PP eComp) <| addP 184 (dryA PP eElem) <| addP 185 (dryA PP eImpl) fun _ => none
theorem prims0_ok : PrimOk PP prims0 := (PrimOk.add (PrimOk.add (PrimOk.add (PrimOk.add (PrimOk.add (PrimOk.add (PrimOk.add (PrimOk.add (PrimOk.add (PrimOk.add (PrimOk.add (PrimOk.add primOk_none seat_impl) seat_elem) seat_comp) seat_assign) seat_kind) seat_vSet) seat_vElem) seat_vNil) seat_vType) seat_valueOf) seat_typeOf) seat_over)
noncomputable abbrev C0 : CW := WP PP prims0
end
end Go.Ab
