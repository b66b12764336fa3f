/- Who is nearest, in which order: plain. -/
import Derived.Test.YtjpjmeidpjjgdaaGreatDoorOrd
namespace Go.Ab
noncomputable section
open Go.Proofs
set_option maxRecDepth 10000
variable {H H' : AH}

/-! Plain. -/
theorem hitsM_mem {M : List (List Int)} {V : List Int} {n : Nat} {x : Int × Int} : x ∈ hitsM M V n ↔ ∃ i : Nat, i < n ∧ x = ((i : Int), scF M V i) := by
  unfold hitsM
  rw [List.mem_map]
  constructor
  · rintro ⟨i, hi, rfl⟩; exact ⟨i, List.mem_range.1 hi, rfl⟩
  · rintro ⟨i, hi, rfl⟩; exact ⟨i, List.mem_range.2 hi, rfl⟩
theorem orderH_mem {M : List (List Int)} {V : List Int} {x : Int × Int} : x ∈ orderH M V ↔ ∃ i : Nat, i < M.length ∧ x = ((i : Int), scF M V i) := by
  unfold orderH
  rw [(sortH_perm _).mem_iff]; exact hitsM_mem
theorem orderM_at {M : List (List Int)} {V : List Int} {t : Nat} (h : t < M.length) : ∃ i : Nat, i < M.length ∧ (orderM M V)[t]'(by rw [orderM_len]; exact h) = i ∧ (orderH M V)[t]'(by rw [orderH_len]; exact h) = ((i : Int), scF M V i) := by
  obtain ⟨i, hi, e⟩ := orderH_mem.1 (List.getElem_mem (show t < (orderH M V).length by rw [orderH_len]; exact h))
  refine ⟨i, hi, ?_, e⟩
  have q : (orderM M V)[t]? = some (i : Int) := by
    unfold orderM
    rw [List.getElem?_map, List.getElem?_eq_getElem (by rw [orderH_len]; exact h), e]; rfl
  rw [List.getElem?_eq_getElem (by rw [orderM_len]; exact h)] at q
  exact Option.some.inj q
theorem orderM_nodup (M : List (List Int)) (V : List Int) : (orderM M V).Nodup := by
  unfold orderM orderH
  refine (List.Perm.nodup_iff ((sortH_perm _).map _)).2 ?_
  unfold hitsM
  rw [List.map_map]
  show ((List.range M.length).map fun (i : Nat) => ((i : Nat) : Int)).Nodup
  exact List.pairwise_map.2 (List.Pairwise.imp (fun h q => h (by omega)) List.nodup_range)
theorem order_le {M : List (List Int)} {V : List Int} {t u : Nat} (htu : t < u) (hu : u < M.length) : leH ((orderH M V)[t]'(by rw [orderH_len]; omega)) ((orderH M V)[u]'(by rw [orderH_len]; omega)) :=
  List.pairwise_iff_getElem.1 (sortH_sorted _) t u _ _ htu
theorem near_le {M : List (List Int)} {V : List Int} (h0 : 0 < M.length) : ∃ k : Nat, k < M.length ∧ (orderM M V).headD (-1) = k ∧ ∀ i : Nat, i < M.length → scF M V k < scF M V i ∨ scF M V k = scF M V i ∧ k ≤ i := by
  obtain ⟨k, hk, e1, e2⟩ := orderM_at (V := V) h0
  refine ⟨k, hk, by rw [← head_at _ (by rw [orderM_len]; exact h0), e1], fun i hi => ?_⟩
  obtain ⟨u, hu, e⟩ := List.mem_iff_getElem.1 (orderH_mem.2 ⟨i, hi, rfl⟩)
  rcases Nat.eq_zero_or_pos u with q | q
  · subst q
    rw [e2] at e
    have := (Prod.mk.inj e).1
    have : k = i := by omega
    subst this; omega
  · have := order_le (M := M) (V := V) q (by rw [orderH_len] at hu; exact hu)
    rw [e2, e, leH_iff] at this
    simp only at this
    omega

theorem vals_mem {Z : List Vq} {Y : List Vq} {d n : Nat} (h : Z.map (fun z => z.2.2) = (Y.take n).map fun y => vecL y.2.2 d) {z : Vq} (hz : z ∈ Z) : ∃ y ∈ Y, z.2.2 = vecL y.2.2 d := by
  have : z.2.2 ∈ (Y.take n).map fun y => vecL y.2.2 d := by rw [← h]; exact List.mem_map.2 ⟨z, hz, rfl⟩
  obtain ⟨y, hy, e⟩ := List.mem_map.1 this
  exact ⟨y, List.mem_of_mem_take hy, e.symm⟩
theorem vecL_32 (V : List Int) (d : Nat) : In32 (vecL V d) := fun x hx => by have := vecL_in V d x hx; omega
theorem ints_slM : PP.underlying 33 = some (.slice 3) := by kernel_rfl
end
end Go.Ab
