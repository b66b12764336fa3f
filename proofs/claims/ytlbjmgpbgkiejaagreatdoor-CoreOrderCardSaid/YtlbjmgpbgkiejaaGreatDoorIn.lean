/- The seat's inputs, as rows of the world's heap; a run on them. -/
import Derived.Test.YtlbjmgpbgkiejaaGreatDoorHit
import Derived.Test.YtlbjmgpbgkiejaaGreatDoorRow
import Derived.Test.YtlbjmgpbgkiejaaGreatDoorBeg13
import Derived.Test.YtlbjmgpbgkiejaaGreatDoorEv3
namespace Go.Proofs.YtlbjmgpbgkiejaaGreatDoor
open Go.ChangeShapes Go.WideShapes Go.RowKit Go.Ab Go.Joins Go.Deep
set_option maxRecDepth 100000

noncomputable abbrev HW (W : World) : AH := AH.whole PP.globals.size W (laidV 302 PP.globals.size 36)
theorem gsize : PP.globals.size = 2 := by kernel_rfl
theorem laid_beq : AV.beq (laidV 302 PP.globals.size 36) (laidV 302 PP.globals.size 36) = true := by kernel_rfl
theorem laid_whole {W : World} (hl : W.cell? ⟨0, 0, none⟩ = some (.iface 302 (.agg #[.pointer (some ⟨2, 36, none⟩)]))) : Laid (HW W) := by
  have hl' := hl
  unfold World.cell? at hl'
  split at hl'
  · rename_i c e fr hc
    have h0 := whole_get (G := PP.globals.size) (l := laidV 302 PP.globals.size 36) (W := W) (B := 0) hc
    have e0 : idW PP.globals.size 0 = 0 := by rw [gsize]; rfl
    rw [e0] at h0
    show isLaid 302 PP.globals.size 36 ((HW W).get 0) = true
    rw [h0]
    show isLaid 302 PP.globals.size 36 (some (.ro _ (cellW PP.globals.size W.heap.size (laidV 302 PP.globals.size 36) 0 c))) = true
    have e1 : cellW PP.globals.size W.heap.size (laidV 302 PP.globals.size 36) 0 c 0 = some (laidV 302 PP.globals.size 36) := if_pos ⟨rfl, rfl⟩
    unfold isLaid
    simp only [e1]
    exact laid_beq
  · cases hl'
/-- The table. -/
theorem tab_whole {W : World} (ht : ∀ (i : Nat) (z : Int), tabN[i]? = some z → W.cell? ⟨1, i, none⟩ = some (.int .u8 z)) : isTab tabV ((HW W).get 1) = true := by
  have h0 := ht 0 0 rfl
  have h0' := h0
  unfold World.cell? at h0'
  split at h0'
  · rename_i c e fr hc
    have hg := whole_get (G := PP.globals.size) (l := laidV 302 PP.globals.size 36) (W := W) (B := 1) hc
    have e1 : idW PP.globals.size 1 = 1 := by rw [gsize]; rfl
    rw [e1] at hg
    show isTab tabV ((HW W).get 1) = true
    rw [hg]
    show rowIs (cellW PP.globals.size W.heap.size (laidV 302 PP.globals.size 36) 1 c) tabV 0 = true
    refine rowIs_of (fun x hx => ?_) fun i x hx => ?_
    · simp only [tabV, List.mem_cons, List.not_mem_nil, or_false] at hx
      rcases hx with rfl | rfl | rfl | rfl | rfl | rfl | rfl | rfl | rfl | rfl | rfl | rfl | rfl | rfl | rfl | rfl | rfl | rfl | rfl | rfl | rfl | rfl | rfl | rfl | rfl | rfl | rfl | rfl | rfl | rfl | rfl | rfl <;> simp [AV.beq, eqZ_eq, kEq]
    · have hx' : (tabN.map (AV.int .u8))[i]? = some x := hx
      rw [List.getElem?_map] at hx'
      obtain ⟨z, hz, rfl⟩ := Option.map_eq_some_iff.1 hx'
      have hci := ht i z hz
      unfold World.cell? at hci
      rw [show W.heap[(⟨1, i, none⟩ : Addr).block]? = some (.cells c e fr) from hc] at hci
      have hci : c[i]? = some (.int .u8 z) := by simpa using hci
      rw [Nat.zero_add]
      show cellW PP.globals.size W.heap.size _ 1 c i = _
      unfold cellW
      rw [if_neg (by simp), hci]
      rfl
  · cases h0'
theorem whole_calls_at {prim : PrimF} (hp : PrimOk PP prim) {n : FuncId} {args : List AV} {args' : Array Value} {W : World} (hl : W.cell? ⟨0, 0, none⟩ = some (.iface 302 (.agg #[.pointer (some ⟨2, 36, none⟩)])))
    (ha : RelL (rhoW PP.globals.size W.heap.size) args args'.toList) (hb : hasBody PP n = true) (h : (WP PP prim).call n args (HW W) fun v H' => v = .bool true ∧ Ext [] (HW W) H') :
    Calls Tryz.prog n args' W fun e W' => e = .returned (.bool true) ∧ Below W.heap.size W W' := by
  have hr : Real PP (rhoW PP.globals.size W.heap.size) (HW W) W := real_whole (by rw [gsize]; exact hl)
  refine run_calls_at hp hr ha hb (fun b x hx => whole_ro hx) (WP.mono h fun v H' hv => ⟨hv.1, fun b hb => hv.2.same b (whole_lt hb) (by simp)⟩)
theorem whole_calls {n : FuncId} {args : List AV} {args' : Array Value} {W : World} (hl : W.cell? ⟨0, 0, none⟩ = some (.iface 302 (.agg #[.pointer (some ⟨2, 36, none⟩)])))
    (ha : RelL (rhoW PP.globals.size W.heap.size) args args'.toList) (hb : hasBody PP n = true) (h : CC.call n args (HW W) fun v H' => v = .bool true ∧ Ext [] (HW W) H') :
    Calls Tryz.prog n args' W fun e W' => e = .returned (.bool true) ∧ Below W.heap.size W W' := whole_calls_at prims7_ok hl ha hb h
theorem exists_iface {W : World} (hl : W.cell? ⟨0, 0, none⟩ = some (.iface 302 (.agg #[.pointer (some ⟨2, 36, none⟩)]))) : ∃ t x, W.cell? ⟨0, 0, none⟩ = some (.iface t x) := ⟨_, _, hl⟩

/-- A slice of hits. -/
theorem in_hits {H : Type} {enc : TypeId × Value → H} {W : World} {r : Reach} {b0 : Nat} {v : Value} {d : DataW H} {p : List MemPlace} (hl : ∃ t x, W.cell? ⟨0, 0, none⟩ = some (.iface t x))
    (hv : Value.okWide Tryz.prog W r b0 30 v) (h : DataW.Trod enc Tryz.prog W 0 (fun _ => true) true 30 v d p) :
    ∃ (b : Nat) (s : AV) (L : List (Int × Int)), Rel (rhoW PP.globals.size W.heap.size) s v ∧ b < (HW W).next ∧ Hs (HW W) b s L ∧ L.length ≤ maxLen := by
  refine in_row (P := Tryz.prog) hitL (fun x => [.int .i64 x.1, .int .i64 x.2]) Tryz.underlying30 (by kernel_rfl) (by decide) hl (fun _ => rfl) (fun _ => rfl) (fun a i x hx => ?_) (fun n cs y hy => ?_) hv h
  · match i, hx with
    | 0, hx => cases hx; exact ⟨_, rfl, rfl, fun t z => by simp⟩
    | 1, hx => cases hx; exact ⟨_, rfl, rfl, fun t z => by simp⟩
  · obtain ⟨y0, y1, m, _, hlen, h0, h1⟩ := trod_struct2 Tryz.underlying74 hy
    rw [show Tryz.prog.cellsOf 74 = 2 by kernel_rfl] at hlen
    match cs, hlen with
    | [c0, c1], _ =>
      rw [show Tryz.prog.cellsOf (3 : Nat) = 1 by kernel_rfl] at h0
      rw [show Tryz.prog.cellsOf (2 : Nat) = 1 by kernel_rfl] at h1
      obtain ⟨a, e0, _⟩ := DataW.trod_int (k := .i64) (by kernel_rfl) h0
      obtain ⟨b, e1, _⟩ := DataW.trod_int (k := .i64) (by kernel_rfl) h1
      cases e0; cases e1
      exact ⟨(a, b), rfl⟩
/-- A slice of numbers, of one kind. -/
def intL (k : IntKind) (x : Int) : List AV := [.int k x]
theorem in_ints {H : Type} {enc : TypeId × Value → H} {W : World} {r : Reach} {b0 : Nat} {v : Value} {d : DataW H} {p : List MemPlace} {t e : TypeId} {k : IntKind} (hl : ∃ t x, W.cell? ⟨0, 0, none⟩ = some (.iface t x))
    (ht : Tryz.prog.underlying t = some (.slice e)) (he : Tryz.prog.underlying e = some (.int k)) (h1 : Tryz.prog.cellsOf e = 1)
    (hv : Value.okWide Tryz.prog W r b0 t v) (h : DataW.Trod enc Tryz.prog W 0 (fun _ => true) true t v d p) :
    ∃ (b : Nat) (s : AV) (L : List { x : Int // (Lit.int k x).wf = true }), Rel (rhoW PP.globals.size W.heap.size) s v ∧ b < (HW W).next ∧ Sl (HW W) 1 b s (L.map fun x => intL k x.1) ∧ L.length ≤ maxLen := by
  refine in_row (P := Tryz.prog) (fun x : { x : Int // (Lit.int k x).wf = true } => intL k x.1) (fun x => [.int k x.1]) ht h1 (by decide) hl (fun _ => rfl) (fun _ => rfl) (fun a i x hx => ?_) (fun n cs y hy => ?_) hv h
  · match i, hx with
    | 0, hx => cases hx; exact ⟨_, rfl, rfl, fun t z => by simp⟩
  · obtain ⟨a, e0, _, hw⟩ := DataW.trod_int he hy
    exact ⟨⟨a, hw⟩, e0⟩
end Go.Proofs.YtlbjmgpbgkiejaaGreatDoor
