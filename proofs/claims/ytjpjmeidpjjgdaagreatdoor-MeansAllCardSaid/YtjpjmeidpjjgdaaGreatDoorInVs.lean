/- Inputs that are slices of vectors. -/
import Derived.Test.YtjpjmeidpjjgdaaGreatDoorInNums
import Derived.Test.YtjpjmeidpjjgdaaGreatDoorVecsA
namespace Go.Proofs.YtjpjmeidpjjgdaaGreatDoor
open Go.ChangeShapes Go.WideShapes Go.RowKit Go.Ab Go.Joins Go.Deep
set_option maxRecDepth 100000

theorem in_vs {H : Type} {enc : TypeId × Value → H} {W : World} {r : Reach} {b0 : Nat} {v : Value} {d : DataW H} {p : List MemPlace} (hl : ∃ t x, W.cell? ⟨0, 0, none⟩ = some (.iface t x))
    (hv : Value.okWide Tryz.prog W r b0 36 v) (h : DataW.Trod enc Tryz.prog W 0 (fun _ => true) true 36 v d p) :
    ∃ (b : Nat) (s : AV) (Y : List Vq), Rel (rhoW PP.globals.size W.heap.size) s v ∧ b < (HW W).next ∧ Sl (HW W) 1 b s (vrow Y) ∧ Y.length ≤ maxLen ∧ ∀ y ∈ Y, VEl (HW W) y := by
  obtain ⟨b, s, L, q1, q2, q3, q4, q5⟩ := in_rows (P := Tryz.prog) (G := PP.globals.size) (l := laidV 241 PP.globals.size 206) (k := .i32) (e := 38) (f := 21) (by kernel_rfl) (by kernel_rfl) (by kernel_rfl) (by kernel_rfl) (by kernel_rfl) hl hv h
  refine ⟨b, s, L.map fun y => (y.1, y.2.1, y.2.2.map fun x => x.1), q1, q2, ?_, by rw [List.length_map]; exact q4, fun y hy => ?_⟩
  · show Sl _ _ _ _ (List.map _ (List.map _ L))
    rw [List.map_map]; exact q3
  · obtain ⟨z, hz, rfl⟩ := List.mem_map.1 hy
    obtain ⟨_, _, _, r4, _⟩ := q5 z hz
    refine ⟨?_, wf32 fun x hx => ?_⟩
    · show Sl _ _ _ _ (List.map _ (List.map _ z.2.2))
      rw [List.map_map]; exact r4
    · obtain ⟨w, _, rfl⟩ := List.mem_map.1 hx
      exact w.2
end Go.Proofs.YtjpjmeidpjjgdaaGreatDoor
