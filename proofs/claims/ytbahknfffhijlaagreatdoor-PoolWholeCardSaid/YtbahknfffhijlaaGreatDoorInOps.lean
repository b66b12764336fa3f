/- Inputs that are operations on a pool. -/
import Derived.Test.YtbahknfffhijlaaGreatDoorIn
namespace Go.Proofs.YtbahknfffhijlaaGreatDoor
open Go.ChangeShapes Go.WideShapes Go.RowKit Go.Ab Go.Joins Go.Deep
set_option maxRecDepth 100000

theorem in_ops {H : Type} {enc : TypeId × Value → H} {W : World} {r : Reach} {b0 : Nat} {v : Value} {d : DataW H} {p : List MemPlace} (hl : ∃ t x, W.cell? ⟨0, 0, none⟩ = some (.iface t x))
    (hv : Value.okWide Tryz.prog W r b0 22 v) (h : DataW.Trod enc Tryz.prog W 0 (fun _ => true) true 22 v d p) :
    ∃ (b : Nat) (s : AV) (L : List (Int × Int)), Rel (rhoW PP.globals.size W.heap.size) s v ∧ b < (HW W).next ∧ Hs (HW W) b s L ∧ L.length ≤ maxLen ∧ ∀ x ∈ L, (Lit.int .i64 x.2).wf = true := by
  obtain ⟨b, s, L, q1, q2, q3, q4⟩ := in_row (P := Tryz.prog) (G := PP.globals.size) (l := laidV 224 PP.globals.size 178) (fun x : { x : Int × Int // (Lit.int .i64 x.2).wf = true } => hitL x.1) (fun x => [.int .i64 x.1.1, .int .i64 x.1.2]) Tryz.underlying22 (sz := 2) (by kernel_rfl) (by decide) hl (fun _ => rfl) (fun _ => rfl) (fun a i x hx => by
      match i, hx with
      | 0, hx => cases hx; exact ⟨_, rfl, rfl, fun t z => by simp⟩
      | 1, hx => cases hx; exact ⟨_, rfl, rfl, fun t z => by simp⟩) (fun n cs y hy => by
      obtain ⟨y0, y1, m, _, hlen, h0, h1⟩ := trod_struct2 Tryz.underlying29 hy
      rw [show Tryz.prog.cellsOf 29 = 2 by kernel_rfl] at hlen
      match cs, hlen with
      | [c0, c1], _ =>
        rw [show Tryz.prog.cellsOf (3 : Nat) = 1 by kernel_rfl] at h0 h1
        obtain ⟨a, e0, _⟩ := DataW.trod_int (k := .i64) (by kernel_rfl) h0
        obtain ⟨b, e1, _, hw⟩ := DataW.trod_int (k := .i64) (by kernel_rfl) h1
        cases e0; cases e1
        exact ⟨⟨(a, b), hw⟩, rfl⟩) hv h
  refine ⟨b, s, L.map fun x => x.1, q1, q2, ?_, by rw [List.length_map]; exact q4, fun x hx => ?_⟩
  · show Sl _ _ _ _ _
    rw [List.map_map]; exact q3
  · obtain ⟨y, _, rfl⟩ := List.mem_map.1 hx
    exact y.2
end Go.Proofs.YtbahknfffhijlaaGreatDoor
