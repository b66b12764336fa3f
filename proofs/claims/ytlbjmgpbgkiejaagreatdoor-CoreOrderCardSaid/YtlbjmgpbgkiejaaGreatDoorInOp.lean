/- Inputs that are operations. -/
import Derived.Test.YtlbjmgpbgkiejaaGreatDoorIn
import Derived.Test.YtlbjmgpbgkiejaaGreatDoorPrim25
import Derived.Test.YtlbjmgpbgkiejaaGreatDoorReqA
namespace Go.Proofs.YtlbjmgpbgkiejaaGreatDoor
open Go.ChangeShapes Go.WideShapes Go.RowKit Go.Ab Go.Joins Go.Deep
set_option maxRecDepth 100000

theorem next_whole (W : World) : 1 < (HW W).next := by
  show 1 < PP.globals.size + 1 + _
  rw [gsize]; omega
theorem laid2_whole {W : World} (hl : W.cell? ⟨0, 0, none⟩ = some (.iface 302 (.agg #[.pointer (some ⟨2, 36, none⟩)]))) (ht : isTab tabV ((HW W).get 1) = true) : Laid2 (HW W) := ⟨laid_whole hl, ht⟩
theorem wfI {k : IntKind} {n : Int} (h : (Lit.int k n).wf = true) : k.min ≤ n ∧ n ≤ k.max := by
  have h : (decide (k.min ≤ n) && decide (n ≤ k.max)) = true := h
  rw [Bool.and_eq_true, decide_eq_true_eq, decide_eq_true_eq] at h
  exact h
theorem op_cells : Tryz.prog.cellTypes Tryz.prog.depth 41 = some [3, 9, 9, 3, 3, 3, 3, 27, 9, 3, 39] := by kernel_rfl
theorem str_rel (s : ByteArray) : Value.string s = .string ⟨s.data.toList.toArray⟩ := by simp
theorem in_op {H : Type} {enc : TypeId × Value → H} {W : World} {r : Reach} {b0 : Nat} {v : Value} {d : DataW H} {p : List MemPlace} (hl : ∃ t x, W.cell? ⟨0, 0, none⟩ = some (.iface t x))
    (hv : Value.okWide Tryz.prog W r b0 41 v) (h : DataW.Trod enc Tryz.prog W 0 (fun _ => true) true 41 v d p) :
    ∃ (b : Nat) (s : AV) (o : OpV), Rel (rhoW PP.globals.size W.heap.size) (opA o s) v ∧ VecF (HW W) b s o.vec ∧ WfV o := by
  simp only [Value.okWide, Tryz.underlying41] at hv
  obtain ⟨arr, rfl, hsz, ts, hts, _, hcell⟩ := hv
  rw [op_cells] at hts
  cases hts
  rw [show Tryz.prog.cellsOf 41 = 11 by kernel_rfl] at hsz
  obtain ⟨fuel, h⟩ := h
  have h : DataW.trod enc Tryz.prog W 0 (fun _ => true) true fuel 41 arr.toList = some (d, p) := h
  obtain ⟨cs, hcs⟩ : ∃ cs, cs = arr.toList := ⟨_, rfl⟩
  have harr : arr = cs.toArray := by rw [hcs]
  have hlen : cs.length = 11 := by rw [hcs]; simpa using hsz
  rw [← hcs] at h
  subst harr
  clear hcs hsz
  match cs, hlen with
  | [c0, c1, c2, c3, c4, c5, c6, c7, c8, c9, c10], _ =>
  obtain ⟨xs, n, _, _, _, hxl, hf⟩ := DataW.trod_struct Tryz.underlying41 h
  have hc7 := hcell 7 c7 rfl
  obtain ⟨u, hu, hw7⟩ := hc7
  obtain rfl : 27 = u := Option.some.inj hu
  have hv7 : Value.okWide Tryz.prog W r b0 27 c7 := by
    simp only [Value.okWide, Tryz.underlying27]; exact hw7
  have one : ∀ t : TypeId, t = 3 ∨ t = 9 ∨ t = 27 ∨ t = 39 → Tryz.prog.cellsOf t = 1 := by
    rintro t (rfl | rfl | rfl | rfl) <;> kernel_rfl
  match xs, hxl with
  | [y0, y1, y2, y3, y4, y5, y6, y7, y8, y9, y10], _ =>
  have k0 := hf 0 _ rfl
  have k1 := hf 1 _ rfl
  have k2 := hf 2 _ rfl
  have k3 := hf 3 _ rfl
  have k4 := hf 4 _ rfl
  have k5 := hf 5 _ rfl
  have k6 := hf 6 _ rfl
  have k7 := hf 7 _ rfl
  have k8 := hf 8 _ rfl
  have k9 := hf 9 _ rfl
  have k10 := hf 10 _ rfl
  rw [one _ (by simp)] at k0 k1 k2 k3 k4 k5 k6 k7 k8 k9 k10
  obtain ⟨a0, e0, _, w0⟩ := DataW.trod_int (k := .i64) (by kernel_rfl) k0
  obtain ⟨a1, e1, _⟩ := DataW.trod_string (by kernel_rfl) k1
  obtain ⟨a2, e2, _⟩ := DataW.trod_string (by kernel_rfl) k2
  obtain ⟨a3, e3, _, w3⟩ := DataW.trod_int (k := .i64) (by kernel_rfl) k3
  obtain ⟨a4, e4, _, w4⟩ := DataW.trod_int (k := .i64) (by kernel_rfl) k4
  obtain ⟨a5, e5, _, w5⟩ := DataW.trod_int (k := .i64) (by kernel_rfl) k5
  obtain ⟨a6, e6, _, w6⟩ := DataW.trod_int (k := .i64) (by kernel_rfl) k6
  obtain ⟨a8, e8, _⟩ := DataW.trod_string (by kernel_rfl) k8
  obtain ⟨a9, e9, _, w9⟩ := DataW.trod_int (k := .i64) (by kernel_rfl) k9
  obtain ⟨a10, e10, _, w10⟩ := DataW.trod_int (k := .u32) (by kernel_rfl) k10
  cases e0; cases e1; cases e2; cases e3; cases e4; cases e5; cases e6; cases e8; cases e9; cases e10
  have h7 : DataW.Trod enc Tryz.prog W 0 (fun _ => true) true 27 c7 y7.1 y7.2 := by
    obtain ⟨s7, l7, p7, rfl⟩ := okWide_slice (e := 21) (by kernel_rfl) hv7
    exact ⟨_, k7⟩
  obtain ⟨b, s, L, r1, _, r3, r4⟩ := in_ints (k := .i32) (e := 21) hl (by kernel_rfl) (by kernel_rfl) (by kernel_rfl) hv7 h7
  refine ⟨b, s, ⟨a0, a1.data.toList, a2.data.toList, a3, a4, a5, a6, L.map (·.1), a8.data.toList, a9, a10⟩, ?_, ⟨?_, ?_⟩, ⟨wfI w0, wfI w3, wfI w4, wfI w5, wfI w6, wfI w9, wfI w10, fun x hx => ?_⟩⟩
  · exact ⟨_, rfl, _, _, rfl, rfl, _, _, rfl, str_rel _, _, _, rfl, str_rel _, _, _, rfl, rfl, _, _, rfl, rfl, _, _, rfl, rfl, _, _, rfl, rfl, _, _, rfl, r1, _, _, rfl, str_rel _, _, _, rfl, rfl, _, _, rfl, rfl, rfl⟩
  · show Sl _ _ _ _ (List.map _ (List.map _ L))
    rw [List.map_map]; exact r3
  · rw [List.length_map]
    exact r4
  · obtain ⟨y, _, rfl⟩ := List.mem_map.1 hx
    exact wfI y.2
end Go.Proofs.YtlbjmgpbgkiejaaGreatDoor
