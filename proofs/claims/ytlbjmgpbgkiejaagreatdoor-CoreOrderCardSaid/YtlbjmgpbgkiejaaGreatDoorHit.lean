/- Hits, their order; the layers' own tries, called. -/
import Derived.Test.YtlbjmgpbgkiejaaGreatDoorMLess
namespace Go.Ab
noncomputable section
open Go.Proofs
set_option maxRecDepth 10000
variable {H H' : AH}

def hitL (h : Int × Int) : List AV := [.int .i64 h.1, .int .i64 h.2]
def hitA (h : Int × Int) : AV := .agg (hitL h)
def lessB (x y : Int × Int) : Bool := if x.2 = y.2 then decide (x.1 < y.1) else decide (x.2 < y.2)

theorem less_wp (x y : Int × Int) (H : AH) (K : AV → AH → Prop) (hK : ∀ H', Ext [] H H' → K (.bool (lessB x y)) H') : CC.call 261 [hitA x, hitA y] H K := by
  refine m_metric_Less_ok _ _ _ _ ?_
  unfold m_metric_Less hitA hitL
  have hx : Ext [] H ((H.new (.cells 74 [.int .i64 x.1, .int .i64 x.2])).new (.cells 74 [.int .i64 y.1, .int .i64 y.2])) := ((Ext.refl _ _).new _).new _
  simp (disch := first | omega | exact one_int _ _ | exact one_slice _ _ _ _ | exact one_ptr _ | assumption | ((repeat (first | rw [next_new] | rw [AH.next_put] | rw [next_more])) <;> omega) | fail) only [outP_val, w_fieldAddr_ptr, w_load_c, get_new_eq, get_new_ne, next_new, ldV_cells, 
      vO_some, Nat.zero_add, Nat.add_zero, List.getElem?_cons_zero, List.getElem?_cons_succ, ob_some, clearA_int, w_box_c, parts_agg, 
      one_int, List.all_cons, List.all_nil, Bool.and_self, br_true, w_neq, w_lss, 
      condP_not 
      ]
  refine ⟨fun h => ?_, fun h => ?_⟩
  · have := hK _ hx; rw [lessB, if_neg h] at this; exact this
  · have := hK _ hx; rw [lessB, if_pos h] at this; exact this

/-! Rows of hits. -/
abbrev Hs (H : AH) (b : Nat) (s : AV) (L : List (Int × Int)) : Prop := Sl H 2 b s (L.map hitL)
theorem Hs.at {b : Nat} {s : AV} {L : List (Int × Int)} (h : Hs H b s L) {j : Nat} (hj : j < L.length) : ∃ o, (∀ G : AH, w_indexAddr (.sl 2) G s (.int .i64 j) = some (.val (.ptr (some (b, o))) G)) ∧ b < H.next ∧ ldN 2 (H.get b) o = some (hitA L[j]) := by
  obtain ⟨o, h1, h2, h3⟩ := Sl.at h (j := j) (by simpa using hj) .i64
  have e : (L.map hitL)[j]'(by simpa using hj) = hitL L[j] := by simp
  rw [e] at h3
  exact ⟨o, h1, h2, ldN_of (l := hitL L[j]) (by simp [hitL]) rfl h3 rfl⟩
theorem Hs.len {b : Nat} {s : AV} {L : List (Int × Int)} (h : Hs H b s L) (G : AH) : w_len PP 30 G s = some (.val (.int .i64 L.length) G) := by
  have := Sl.len (P := PP) h hit_sl G
  rwa [List.length_map] at this

theorem lessB_iff (x y : Int × Int) : lessB x y = true ↔ (x.2 < y.2 ∨ (x.2 = y.2 ∧ x.1 < y.1)) := by
  unfold lessB
  by_cases h : x.2 = y.2
  · simp [h]
  · simp [h]
theorem lessB_trans {x y z : Int × Int} (h : lessB x y = true) (k : lessB y z = true) : lessB x z = true := by
  rw [lessB_iff] at *; omega
theorem lessB_total {x y : Int × Int} (hne : x.1 ≠ y.1) (h : lessB x y = false) : lessB y x = true := by
  have h : ¬ (lessB x y = true) := by rw [h]; simp
  rw [lessB_iff] at *; omega
abbrev Laid (H : AH) : Prop := isLaid 302 PP.globals.size 36 (H.get 0) = true
theorem begun_wp (h : Laid H) (K : AV → AH → Prop) (hK : K (.bool true) H) : CC.call 334 [] H K := by
  refine prim_wp (P := PP) (prim := prims7) (g := begA) (v := .bool true) (H' := H) (by kernel_rfl) ?_ hK
  show br (isLaid 302 PP.globals.size 36 (H.get 0)) (some (AV.bool true, H)) none = _
  rw [h]; rfl

end
end Go.Ab
