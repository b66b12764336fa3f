/- The layers' own tries, closed runs, from the indexes on: the keys of their maps as one step. -/
import Derived.Test.YtlbjmgpbgkiejaaGreatDoorKeysP
import Derived.Test.YtlbjmgpbgkiejaaGreatDoorClosed2
namespace Go.Ab
open Go.Proofs
noncomputable section
set_option maxRecDepth 10000
theorem keysAt1 : KeysAt 204 := ⟨by kernel_rfl, Tryz.keysL1_ren, { Tryz.keysL1 with }, rfl⟩
theorem keysAt2 : KeysAt 311 := ⟨by kernel_rfl, Tryz.keysL2_ren, { Tryz.keysL2 with }, rfl⟩
theorem keysAt3 : KeysAt 313 := ⟨by kernel_rfl, Tryz.keysL3_ren, { Tryz.keysL3 with }, rfl⟩
theorem keysAt4 : KeysAt 314 := ⟨by kernel_rfl, Tryz.keysL4_ren, { Tryz.keysL4 with }, rfl⟩
theorem keysAt5 : KeysAt 335 := ⟨by kernel_rfl, Tryz.keysL5_ren, { Tryz.keysL5 with }, rfl⟩
abbrev gks : List FuncId := [204, 311, 313, 314, 335]
theorem keys_all : PrimAt PP 119 (keysA gks) := keys_at fun g hg => by
  simp only [List.mem_cons, List.not_mem_nil, or_false] at hg
  rcases hg with rfl | rfl | rfl | rfl | rfl
  · exact keysAt1
  · exact keysAt2
  · exact keysAt3
  · exact keysAt4
  · exact keysAt5
/-- The one step, or else the other. -/
def orA (g1 g2 : List AV → AH → Option (AV × AH)) (args : List AV) (H : AH) : Option (AV × AH) := @Option.rec (AV × AH) (fun _ => Option (AV × AH)) (g2 args H) (fun r => some r) (g1 args H)
theorem or_at {f : FuncId} {g1 g2 : List AV → AH → Option (AV × AH)} (h1 : PrimAt PP f g1) (h2 : PrimAt PP f g2) : PrimAt PP f (orA g1 g2) := by
  intro args args' ρ H w v H' hg hr ha
  unfold orA at hg
  cases c : g1 args H with
  | none => rw [c] at hg; exact h2 hg hr ha
  | some r => rw [c] at hg; exact h1 (c.trans hg) hr ha
/-- What the evaluator tells of a function, as a step. -/
theorem ev_at {prim : PrimF} (hp : PrimOk PP prim) {f : FuncId} (n : Nat) : PrimAt PP f (evCall PP prim n f) := by
  intro args args' ρ H w v H' hg hr ha
  exact (ev_ok hp seat_mixed (progOk_regs seat_ok) n).call hg hr ha
/-- slices.Sorted: of a map's keys; of whatever else the evaluator runs. -/
def sortedA : List AV → AH → Option (AV × AH) := orA (keysA gks) (evCall PP prims6 3000 119)
theorem sorted_all : PrimAt PP 119 sortedA := or_at keys_all (ev_at prims6_ok 3000)
def prims12 : PrimF := addP 119 sortedA prims6
theorem prims12_ok : PrimOk PP prims12 := PrimOk.add prims6_ok sorted_all
/-- math/bits' table. -/
abbrev tabV : List AV := [.int .u8 0, .int .u8 1, .int .u8 28, .int .u8 2, .int .u8 29, .int .u8 14, .int .u8 24, .int .u8 3, .int .u8 30, .int .u8 22, .int .u8 20, .int .u8 15, .int .u8 25, .int .u8 17, .int .u8 4, .int .u8 8, .int .u8 31, .int .u8 27, .int .u8 13, .int .u8 23, .int .u8 21, .int .u8 19, .int .u8 16, .int .u8 7, .int .u8 26, .int .u8 12, .int .u8 18, .int .u8 6, .int .u8 11, .int .u8 5, .int .u8 10, .int .u8 9]
abbrev tabH (ob1 : Obj) : ABlk := tabA ob1 tabV
abbrev beg2A : List AV → AH → Option (AV × AH) := closedA2 302 PP.globals.size 36 tabV
theorem tabV_rel : ∀ y ∈ tabV, ∀ ρ ρ' v, Rel ρ y v → Rel ρ' y v := by
  intro y hy ρ ρ' v h
  simp only [tabV, List.mem_cons, List.not_mem_nil, or_false] at hy
  rcases hy with rfl | rfl | rfl | rfl | rfl | rfl | rfl | rfl | rfl | rfl | rfl | rfl | rfl | rfl | rfl | rfl | rfl | rfl | rfl | rfl | rfl | rfl | rfl | rfl | rfl | rfl | rfl | rfl | rfl | rfl | rfl | rfl <;> exact h
theorem globs : 1 < PP.globals.size := Nat.le_of_ble_eq_true (by kernel_rfl)
theorem beg13 (ob0 ob1 : Obj) : closedR2 (evCall PP prims12 4000 232 [] (AH.start2 (PP.globals.size + 1) (begH ob0) (tabH ob1))) = some (true, some (begH ob0), some (tabH ob1)) := by kernel_rfl
theorem beg13_at : PrimAt PP 232 beg2A := closed_at2 prims12_ok seat_mixed seat_ok (by kernel_rfl) globs tabV_rel beg13
def prims13 : PrimF := addP 232 beg2A prims12
theorem prims13_ok : PrimOk PP prims13 := PrimOk.add prims12_ok beg13_at
end
end Go.Ab
