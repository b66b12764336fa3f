/- The seat's program and its functions without a body. -/
import Derived.Test.YtlbjmgpbgkiejaaGreatDoorEv3
import Derived.Test.YtlbjmgpbgkiejaaGreatDoorChecked
import Derived.KernelRfl
namespace Go.Ab
open Go.Proofs
noncomputable section
noncomputable abbrev PP : Program := Tryz.prog
theorem seat_mixed : PP.follows .mixedOrders = true := by kernel_rfl
/-- The functions, some at a time: the kernel's memory. -/
theorem allB_segs {α : Type} {f : α → Bool} {l : List α} (n k : Nat) (hn : 0 < n) (h : ∀ i, i < k → allB f ((l.drop (i * n)).take n) = true) (hl : l.length ≤ k * n) : allB f l = true := by
  rw [allB_eq, List.all_eq_true]
  intro x hx
  obtain ⟨j, hj⟩ := List.getElem?_of_mem hx
  have hlt := (List.getElem?_eq_some_iff.1 hj).1
  have hi : j / n < k := Nat.div_lt_of_lt_mul (by rw [Nat.mul_comm]; omega)
  have := h (j / n) hi
  rw [allB_eq, List.all_eq_true] at this
  refine this x (List.mem_of_getElem? (i := j % n) ?_)
  rw [List.getElem?_take, if_pos (Nat.mod_lt _ hn), List.getElem?_drop, Nat.mul_comm, Nat.div_add_mod, hj]
abbrev fnOk (fn : Func) : Bool := match fn.body with
  | none => true
  | some c => regsOk PP c
theorem seg_ok0 : allB fnOk ((PP.funcs.toList.drop (0 * 18)).take 18) = true := by kernel_rfl
theorem seg_ok1 : allB fnOk ((PP.funcs.toList.drop (1 * 18)).take 18) = true := by kernel_rfl
theorem seg_ok2 : allB fnOk ((PP.funcs.toList.drop (2 * 18)).take 18) = true := by kernel_rfl
theorem seg_ok3 : allB fnOk ((PP.funcs.toList.drop (3 * 18)).take 18) = true := by kernel_rfl
theorem seg_ok4 : allB fnOk ((PP.funcs.toList.drop (4 * 18)).take 18) = true := by kernel_rfl
theorem seg_ok5 : allB fnOk ((PP.funcs.toList.drop (5 * 18)).take 18) = true := by kernel_rfl
theorem seg_ok6 : allB fnOk ((PP.funcs.toList.drop (6 * 18)).take 18) = true := by kernel_rfl
theorem seg_ok7 : allB fnOk ((PP.funcs.toList.drop (7 * 18)).take 18) = true := by kernel_rfl
theorem seg_ok8 : allB fnOk ((PP.funcs.toList.drop (8 * 18)).take 18) = true := by kernel_rfl
theorem seg_ok9 : allB fnOk ((PP.funcs.toList.drop (9 * 18)).take 18) = true := by kernel_rfl
theorem seg_ok10 : allB fnOk ((PP.funcs.toList.drop (10 * 18)).take 18) = true := by kernel_rfl
theorem seg_ok11 : allB fnOk ((PP.funcs.toList.drop (11 * 18)).take 18) = true := by kernel_rfl
theorem seg_ok12 : allB fnOk ((PP.funcs.toList.drop (12 * 18)).take 18) = true := by kernel_rfl
theorem seg_ok13 : allB fnOk ((PP.funcs.toList.drop (13 * 18)).take 18) = true := by kernel_rfl
theorem seg_ok14 : allB fnOk ((PP.funcs.toList.drop (14 * 18)).take 18) = true := by kernel_rfl
theorem seg_ok15 : allB fnOk ((PP.funcs.toList.drop (15 * 18)).take 18) = true := by kernel_rfl
theorem seg_ok16 : allB fnOk ((PP.funcs.toList.drop (16 * 18)).take 18) = true := by kernel_rfl
theorem seg_ok17 : allB fnOk ((PP.funcs.toList.drop (17 * 18)).take 18) = true := by kernel_rfl
theorem seg_ok18 : allB fnOk ((PP.funcs.toList.drop (18 * 18)).take 18) = true := by kernel_rfl
theorem seg_ok19 : allB fnOk ((PP.funcs.toList.drop (19 * 18)).take 18) = true := by kernel_rfl
theorem seg_ok20 : allB fnOk ((PP.funcs.toList.drop (20 * 18)).take 18) = true := by kernel_rfl
theorem seg_ok21 : allB fnOk ((PP.funcs.toList.drop (21 * 18)).take 18) = true := by kernel_rfl
theorem seg_ok22 : allB fnOk ((PP.funcs.toList.drop (22 * 18)).take 18) = true := by kernel_rfl
theorem seg_ok23 : allB fnOk ((PP.funcs.toList.drop (23 * 18)).take 18) = true := by kernel_rfl
theorem seg_ok24 : allB fnOk ((PP.funcs.toList.drop (24 * 18)).take 18) = true := by kernel_rfl
theorem seg_ok25 : allB fnOk ((PP.funcs.toList.drop (25 * 18)).take 18) = true := by kernel_rfl
theorem seg_ok26 : allB fnOk ((PP.funcs.toList.drop (26 * 18)).take 18) = true := by kernel_rfl
theorem seg_ok27 : allB fnOk ((PP.funcs.toList.drop (27 * 18)).take 18) = true := by kernel_rfl
theorem seat_ok : progOk PP = true := allB_segs 18 28 (by decide) (fun i hi => match i, hi with
  | 0, _ => seg_ok0
  | 1, _ => seg_ok1
  | 2, _ => seg_ok2
  | 3, _ => seg_ok3
  | 4, _ => seg_ok4
  | 5, _ => seg_ok5
  | 6, _ => seg_ok6
  | 7, _ => seg_ok7
  | 8, _ => seg_ok8
  | 9, _ => seg_ok9
  | 10, _ => seg_ok10
  | 11, _ => seg_ok11
  | 12, _ => seg_ok12
  | 13, _ => seg_ok13
  | 14, _ => seg_ok14
  | 15, _ => seg_ok15
  | 16, _ => seg_ok16
  | 17, _ => seg_ok17
  | 18, _ => seg_ok18
  | 19, _ => seg_ok19
  | 20, _ => seg_ok20
  | 21, _ => seg_ok21
  | 22, _ => seg_ok22
  | 23, _ => seg_ok23
  | 24, _ => seg_ok24
  | 25, _ => seg_ok25
  | 26, _ => seg_ok26
  | 27, _ => seg_ok27
  | i + 28, h => absurd h (by omega)) (Nat.le_of_ble_eq_true (by kernel_rfl))
noncomputable abbrev RT : TypeId := 302
theorem seat_rt : dry PP (cutType "internal/reflectlite.rtype") = some RT := by kernel_rfl
theorem seat_typeOf : PrimAt PP 185 (typeOfA PP RT) := ext_at Tryz.func185 (by kernel_rfl) (by kernel_rfl) (by kernel_rfl) (e := Extern.ReflectliteType.typeOf) (by kernel_rfl) (by kernel_rfl) (sound_typeOf seat_rt)
theorem seat_valueOf : PrimAt PP 103 (valueOfA PP) := ext_at Tryz.func103 (by kernel_rfl) (by kernel_rfl) (by kernel_rfl) (e := fun args => Extern.ReflectliteValue.unpack (args.getD 0 (.tuple #[]))) (by kernel_rfl) (by kernel_rfl) sound_valueOf
theorem seat_vType : PrimAt PP 104 (vTypeA PP RT) := ext_at Tryz.func104 (by kernel_rfl) (by kernel_rfl) (by kernel_rfl) (e := Extern.ReflectliteValue.methodAny (Extern.ReflectliteValue.valueError "reflectlite.Value.Type" 0) fun t _ _ _ => Extern.ReflectliteType.toType t) (by kernel_rfl) (by kernel_rfl) (sound_vType seat_rt)
theorem seat_vNil : PrimAt PP 105 (vNilA PP) := ext_at Tryz.func105 (by kernel_rfl) (by kernel_rfl) (by kernel_rfl) (e := Extern.ReflectliteValue.method (Extern.ReflectliteValue.valueError "reflectlite.Value.IsNil" 0) Extern.ReflectliteValue.isNil) (by kernel_rfl) (by kernel_rfl) sound_vNil
theorem seat_vElem : PrimAt PP 186 (vElemA PP) := ext_at Tryz.func186 (by kernel_rfl) (by kernel_rfl) (by kernel_rfl) (e := Extern.ReflectliteValue.method (Extern.ReflectliteValue.valueError "reflectlite.Value.Elem" 0) Extern.ReflectliteValue.elem) (by kernel_rfl) (by kernel_rfl) sound_vElem
theorem seat_vSet : PrimAt PP 187 (vSetA PP) := ext_at Tryz.func187 (by kernel_rfl) (by kernel_rfl) (by kernel_rfl) (e := Extern.ReflectliteValue.set) (by kernel_rfl) (by kernel_rfl) sound_vSet
noncomputable abbrev eKind : Array Value → Sem Value := Extern.ReflectliteType.abiMethod fun t => do pure (.int .u8 (← Extern.Rtype.kind t))
theorem seat_kind : PrimAt PP 414 (dryA PP eKind) := ext_at Tryz.func414 (by kernel_rfl) (by kernel_rfl) (by kernel_rfl) (e := eKind) (by kernel_rfl) (by kernel_rfl) (sound_dry _)
noncomputable abbrev eAssign : Array Value → Sem Value := Extern.ReflectliteType.relation "AssignableTo" Extern.ReflectliteType.assignableTo
theorem seat_assign : PrimAt PP 427 (dryA PP eAssign) := ext_at Tryz.func427 (by kernel_rfl) (by kernel_rfl) (by kernel_rfl) (e := eAssign) (by kernel_rfl) (by kernel_rfl) (sound_dry _)
noncomputable abbrev eComp : Array Value → Sem Value := Extern.ReflectliteType.method fun t => do Extern.Rtype.noPackHeld "Comparable" t; pure (.bool (← typeInfo t).comparable)
theorem seat_comp : PrimAt PP 428 (dryA PP eComp) := ext_at Tryz.func428 (by kernel_rfl) (by kernel_rfl) (by kernel_rfl) (e := eComp) (by kernel_rfl) (by kernel_rfl) (sound_dry _)
noncomputable abbrev eElem : Array Value → Sem Value := Extern.ReflectliteType.method Extern.ReflectliteType.elem
theorem seat_elem : PrimAt PP 429 (dryA PP eElem) := ext_at Tryz.func429 (by kernel_rfl) (by kernel_rfl) (by kernel_rfl) (e := eElem) (by kernel_rfl) (by kernel_rfl) (sound_dry _)
noncomputable abbrev eImpl : Array Value → Sem Value := Extern.ReflectliteType.relation "Implements" Extern.ReflectliteType.implements_
theorem seat_impl : PrimAt PP 430 (dryA PP eImpl) := ext_at Tryz.func430 (by kernel_rfl) (by kernel_rfl) (by kernel_rfl) (e := eImpl) (by kernel_rfl) (by kernel_rfl) (sound_dry _)
theorem seat_over : PrimAt PP 349 (overlapsA PP 30) := ext_at Tryz.func349 (by kernel_rfl) (by kernel_rfl) (by kernel_rfl) (e := Extern.SlicesOverlaps.overlaps #[30, 30] #[4]) (by kernel_rfl) (by kernel_rfl) sound_overlaps
theorem seat_overI : PrimAt PP 307 (overlapsA PP 54) := ext_at Tryz.func307 (by kernel_rfl) (by kernel_rfl) (by kernel_rfl) (e := Extern.SlicesOverlaps.overlaps #[54, 54] #[4]) (by kernel_rfl) (by kernel_rfl) sound_overlaps
noncomputable def prims0 : PrimF := addP 307 (overlapsA PP 54) <| addP 349 (overlapsA PP 30) <| addP 185 (typeOfA PP RT) <| addP 103 (valueOfA PP) <| addP 104 (vTypeA PP RT) <| addP 105 (vNilA PP) <| addP 186 (vElemA PP) <| addP 187 (vSetA PP) <|
  addP 414 (dryA PP eKind) <| addP 427 (dryA PP eAssign) <| addP 428 (dryA PP eComp) <| addP 429 (dryA PP eElem) <| addP 430 (dryA PP eImpl) fun _ => none
theorem prims0_ok : PrimOk PP prims0 := PrimOk.add (PrimOk.add (PrimOk.add (PrimOk.add (PrimOk.add (PrimOk.add (PrimOk.add (PrimOk.add (PrimOk.add (PrimOk.add (PrimOk.add (PrimOk.add (PrimOk.add primOk_none seat_impl) seat_elem) seat_comp) seat_assign) seat_kind) seat_vSet) seat_vElem) seat_vNil) seat_vType) seat_valueOf) seat_typeOf) seat_over) seat_overI
noncomputable abbrev C0 : CW := WP PP prims0
end
end Go.Ab
