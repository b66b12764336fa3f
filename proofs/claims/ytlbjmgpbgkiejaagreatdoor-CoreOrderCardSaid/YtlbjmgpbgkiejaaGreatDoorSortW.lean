/- slices.Sorted of slices.Values: sorted, in a block of its own. -/
import Derived.Test.YtlbjmgpbgkiejaaGreatDoorSeqVals
namespace Go.Ab
noncomputable section
open Go.Proofs
set_option maxRecDepth 10000
variable {H H' : AH}

theorem flat_nums (k : IntKind) : ∀ L : List Int, (nums k L).flatten = L.map (AV.int k)
  | [] => rfl
  | x :: L => by show [AV.int k x] ++ (nums k L).flatten = _; rw [flat_nums k L]; rfl
theorem sort_wp {B : Nat} {s : AV} {L : List Int} (h : Os 3 .i64 H B s L) (hL : L.length ≤ 1000000) (K : AV → AH → Prop) (hK : ∀ H', Ext [B] H H' → H'.next = H.next → Os 3 .i64 H' B s (sortZ L) → K (.tup []) H') :
    CC.call 203 [s] H K := by
  obtain ⟨q1, q2⟩ | ⟨o, c, ex, cs, q1, q2, q3, q4, q5, q6, q7⟩ := h.ex
  · have e := List.map_eq_nil_iff.1 q2
    subst q1 e
    exact prim_wp (P := PP) (prim := prims7) (g := sortA) (v := .tup []) (H' := H) (by kernel_rfl) rfl (hK _ (Ext.refl _ _) rfl (by rw [show sortZ [] = [] from List.mergeSort_nil]; exact h))
  · rw [List.length_map] at q1 q3 q6
    rw [flat_nums, Nat.mul_one] at q6
    rw [Nat.mul_one] at q4 q5
    have hz : allM intA ((cs.drop o).take L.length) = some L := by
      rw [q6, allM_eq_some, List.map_map]
      exact List.map_congr_left fun x _ => rfl
    have hs := sortZ_len L
    have tl : (cs.take o).length = o := by rw [List.length_take]; omega
    have len : (cs.take o ++ ((sortZ L).map (AV.int .i64) ++ cs.drop (o + L.length))).length = cs.length := by
      rw [List.length_append, List.length_append, List.length_map, List.length_drop, tl]; omega
    have run : sortA [s] H = some (.tup [], H.put B (some (.cells 3 (cs.take o ++ ((sortZ L).map (AV.int .i64) ++ cs.drop (o + L.length)))))) := by
      subst q1
      show (match H.get B with
        | some (.cells e cs) => br (Nat.ble (o + L.length) cs.length && Nat.ble L.length 1000000000) (ob (allM intA ((cs.drop o).take L.length)) fun zs => some (AV.tup [], H.put B (some (.cells e (cs.take o ++ ((sortZ zs).map (AV.int .i64) ++ cs.drop (o + L.length))))))) none
        | _ => none) = _
      rw [q2]
      have e1 : Nat.ble (o + L.length) cs.length = true := Nat.ble_eq_true_of_le (by omega)
      have e2 : Nat.ble L.length 1000000000 = true := Nat.ble_eq_true_of_le (by omega)
      show br (Nat.ble (o + L.length) cs.length && Nat.ble L.length 1000000000) _ none = _
      rw [e1, e2, Bool.true_and, br_true, hz, ob_some]
    refine prim_wp (P := PP) (prim := prims7) (g := sortA) (by kernel_rfl) run (hK _ ((Ext.refl _ _).put (.inr (by simp)) _) (AH.next_put _ _ _) ⟨.inr ⟨o, c, ex, _, ?_, get_put_same _ _, ?_, ?_, ?_, ?_, ?_⟩, ?_, ?_, ?_⟩)
    · rw [List.length_map, hs]; exact q1
    · rw [List.length_map, hs]; exact q3
    · rw [len, Nat.mul_one]; exact q4
    · rw [len, Nat.mul_one]; exact q5
    · rw [flat_nums, List.length_map, hs, Nat.mul_one, List.drop_append_of_le_length (by omega), List.drop_of_length_le (by omega), List.nil_append, List.take_append_of_le_length (by rw [List.length_map, hs]; omega), List.take_of_length_le (by rw [List.length_map, hs]; omega)]
    · rw [AH.next_put]; exact q7
    · intro x hx; obtain ⟨z, _, rfl⟩ := List.mem_map.1 hx; rfl
    · intro x hx; obtain ⟨z, _, rfl⟩ := List.mem_map.1 hx; rfl
    · intro x hx; obtain ⟨z, _, rfl⟩ := List.mem_map.1 hx; rfl
theorem sorted_wp {b p : Nat} {s : AV} {L : List Int} (h : Is .i64 H b s L) (hL : L.length ≤ 100000) (hp : H.get p = some (.cells 54 [s])) (hpn : p < H.next) (K : AV → AH → Prop)
    (hK : ∀ H' s' B, Ext [] H H' → H.next ≤ B → Os 3 .i64 H' B s' (sortZ L) → K s' H') : CC.call 119 [valFn p] H K := by
  refine m_slices_Sorted_int_ok _ _ _ ?_
  unfold m_slices_Sorted_int
  rw [outP_enter]
  refine collect_wp h hL hp hpn _ fun H' s' B x1 hB o1 => ?_
  rw [outP_enter]
  refine sort_wp o1 (by omega) _ fun H2 x2 n2 o2 => ?_
  refine hK _ s' B ?_ hB o2
  refine ((x1.mono (m' := [B]) (by simp)).trans x2).mono fun q hq hlt => ?_
  simp at hq; omega
/-- What is sorted. -/
theorem sortZ_perm (L : List Int) : (sortZ L).Perm L := List.mergeSort_perm L _
theorem sortZ_sorted (L : List Int) : (sortZ L).Pairwise (· ≤ ·) :=
  (List.pairwise_mergeSort (le := fun x y : Int => decide (x ≤ y)) (fun a b c h1 h2 => by simp only [decide_eq_true_eq] at *; omega) (fun a b => by simp only [Bool.or_eq_true, decide_eq_true_eq]; omega) L).imp fun h => by simpa using h
end
end Go.Ab
