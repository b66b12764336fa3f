/- Inputs that are slices of numbers, or slices of such. -/
import Derived.Test.YtlbjmgpbgkiejaaGreatDoorIn
import Derived.Test.YtlbjmgpbgkiejaaGreatDoorNums
import Derived.Test.YtlbjmgpbgkiejaaGreatDoorVecK
namespace Go.Proofs.YtlbjmgpbgkiejaaGreatDoor
open Go.ChangeShapes Go.WideShapes Go.RowKit Go.Ab Go.Joins Go.Deep
set_option maxRecDepth 100000

theorem in_is {H : Type} {enc : TypeId × Value → H} {W : World} {r : Reach} {b0 : Nat} {v : Value} {d : DataW H} {p : List MemPlace} {t e : TypeId} {k : IntKind} (hl : ∃ t x, W.cell? ⟨0, 0, none⟩ = some (.iface t x))
    (ht : Tryz.prog.underlying t = some (.slice e)) (he : Tryz.prog.underlying e = some (.int k)) (h1 : Tryz.prog.cellsOf e = 1)
    (hv : Value.okWide Tryz.prog W r b0 t v) (h : DataW.Trod enc Tryz.prog W 0 (fun _ => true) true t v d p) :
    ∃ (b : Nat) (s : AV) (L : List Int), Rel (rhoW PP.globals.size W.heap.size) s v ∧ b < (HW W).next ∧ Is k (HW W) b s L ∧ L.length ≤ maxLen ∧ ∀ x ∈ L, (Lit.int k x).wf = true := by
  obtain ⟨b, s, L, q1, q2, q3, q4⟩ := in_ints hl ht he h1 hv h
  refine ⟨b, s, L.map fun x => x.1, q1, q2, ?_, by rw [List.length_map]; exact q4, fun x hx => ?_⟩
  · show Sl _ _ _ _ _
    rw [nums, List.map_map]; exact q3
  · obtain ⟨y, _, rfl⟩ := List.mem_map.1 hx
    exact y.2
theorem wf32 {L : List Int} (h : ∀ x ∈ L, (Lit.int .i32 x).wf = true) : ∀ x ∈ L, -2147483648 ≤ x ∧ x ≤ 2147483647 := fun x hx => by
  have := h x hx
  simp only [Lit.wf, Bool.and_eq_true, decide_eq_true_eq] at this
  rw [show IntKind.i32.min = -2147483648 from by decide, show IntKind.i32.max = 2147483647 from by decide] at this
  exact this
theorem wf8 {L : List Int} (h : ∀ x ∈ L, (Lit.int .u8 x).wf = true) : ∀ x ∈ L, 0 ≤ x ∧ x ≤ 255 := fun x hx => by
  have := h x hx
  simp only [Lit.wf, Bool.and_eq_true, decide_eq_true_eq] at this
  rw [show IntKind.u8.min = 0 from by decide, show IntKind.u8.max = 255 from by decide] at this
  exact this
end Go.Proofs.YtlbjmgpbgkiejaaGreatDoor
/- Inputs that are slices of vectors. -/
namespace Go.Proofs.YtlbjmgpbgkiejaaGreatDoor
open Go.ChangeShapes Go.WideShapes Go.RowKit Go.Ab Go.Joins Go.Deep
set_option maxRecDepth 100000

theorem in_vs {H : Type} {enc : TypeId × Value → H} {W : World} {r : Reach} {b0 : Nat} {v : Value} {d : DataW H} {p : List MemPlace} (hl : ∃ t x, W.cell? ⟨0, 0, none⟩ = some (.iface t x))
    (hv : Value.okWide Tryz.prog W r b0 22 v) (h : DataW.Trod enc Tryz.prog W 0 (fun _ => true) true 22 v d p) :
    ∃ (b : Nat) (s : AV) (Y : List Vq), Rel (rhoW PP.globals.size W.heap.size) s v ∧ b < (HW W).next ∧ Sl (HW W) 1 b s (vrow Y) ∧ Y.length ≤ maxLen ∧ ∀ y ∈ Y, VEl (HW W) y := by
  obtain ⟨b, s, L, q1, q2, q3, q4, q5⟩ := in_rows (P := Tryz.prog) (G := PP.globals.size) (l := laidV 302 PP.globals.size 36) (k := .i32) (e := 27) (f := 21) (by kernel_rfl) (by kernel_rfl) (by kernel_rfl) (by kernel_rfl) (by kernel_rfl) hl hv h
  refine ⟨b, s, L.map fun y => (y.1, y.2.1, y.2.2.map fun x => x.1), q1, q2, ?_, by rw [List.length_map]; exact q4, fun y hy => ?_⟩
  · show Sl _ _ _ _ (List.map _ (List.map _ L))
    rw [List.map_map]; exact q3
  · obtain ⟨z, hz, rfl⟩ := List.mem_map.1 hy
    obtain ⟨_, _, _, r4, _⟩ := q5 z hz
    refine ⟨?_, wf32 fun x hx => ?_⟩
    · show Sl _ _ _ _ (List.map _ (List.map _ z.2.2))
      rw [List.map_map]; exact r4
    · obtain ⟨w, _, rfl⟩ := List.mem_map.1 hx
      exact w.2
end Go.Proofs.YtlbjmgpbgkiejaaGreatDoor
