/- Vectors that may be; slices of vectors. -/
import Derived.Test.YtbahknfffhijlaaGreatDoorQuantD
namespace Go.Ab
noncomputable section
open Go.Proofs
set_option maxRecDepth 10000
variable {H H' : AH}

theorem vecs_sl : PP.underlying 58 = some (.slice 49) := by kernel_rfl
theorem vec_el : elT PP 49 = some (1, [.slice none 0 0 true]) := by kernel_rfl

/-! May. -/
def mayB (V : List Int) (dim : Int) : Bool := decide (1 ≤ dim) && decide (dim ≤ 8) && decide ((V.length : Int) = dim) && !V.any (fun x => decide (x < -1048576) || decide (1048576 < x))
theorem mayB_iff (V : List Int) (dim : Int) : mayB V dim = true ↔ 1 ≤ dim ∧ dim ≤ 8 ∧ (V.length : Int) = dim ∧ ∀ x ∈ V, -1048576 ≤ x ∧ x ≤ 1048576 := by
  unfold mayB
  simp only [Bool.and_eq_true, decide_eq_true_iff, Bool.not_eq_true', List.any_eq_false, Bool.or_eq_true, and_assoc]
  constructor
  · rintro ⟨h1, h2, h3, h4⟩
    exact ⟨h1, h2, h3, fun x hx => by have := h4 x hx; omega⟩
  · rintro ⟨h1, h2, h3, h4⟩
    exact ⟨h1, h2, h3, fun x hx => by have := h4 x hx; omega⟩
theorem may1_wp (x : Int) (K : AV → AH → Prop) (hK : K (.bool (decide (x < -1048576) || decide (1048576 < x))) H) : CC.call 62 [.int .i32 x] H K := by
  refine m_vect_May_1_ok _ _ _ ?_
  unfold m_vect_May_1
  rw [w_lss, outP_val, boolIs_bool, beq_ff]
  by_cases c : x < -1048576
  · rw [decide_eq_true c, Bool.not_true, guardP_false, guardP_false, w_pick_b, outP_val, if_pos rfl]
    rw [decide_eq_true c, Bool.true_or] at hK; exact hK
  · rw [decide_eq_false c, Bool.not_false, guardP_true, outP_val, guardP_true, w_gtr, outP_val, w_pick_b, outP_val, if_neg (by simp)]
    rw [decide_eq_false c, Bool.false_or] at hK; exact hK
theorem idx_may {b : Nat} {s : AV} {L : List Int} (hs : Is .i32 H b s L) (hL : L.length ≤ 1000000) (K : AV → AH → Prop)
    (hK : ∀ i, (0 ≤ i ↔ L.any (fun x => decide (x < -1048576) || decide (1048576 < x)) = true) → K (.int .i64 i) H) : CC.call 84 [s, .fn (.func 62) [] []] H K := by
  refine m_slices_IndexFunc_api_Vec_int32_ok _ _ _ _ ?_
  unfold m_slices_IndexFunc_api_Vec_int32 m_slices_IndexFunc_api_Vec_int32th
  rw [hs.len vec_sl, outP_val]
  unfold m_slices_IndexFunc_api_Vec_int32thtb
  refine loopP_rule (I := fun t G => ∃ j : Nat, t = (s, .fn (.func 62) [] [], .int .i64 L.length, .int .i64 j) ∧ j ≤ L.length ∧ G = H ∧ ∀ x ∈ L.take j, ¬ (decide (x < -1048576) || decide (1048576 < x)) = true) (μ := fun t _ => match t.2.2.2 with | .int _ z => L.length - z.toNat | _ => 0) ?_ ⟨0, rfl, Nat.zero_le _, rfl, fun x hx => by simp at hx⟩
  rintro t G ⟨j, rfl, hj, rfl, hno⟩ rec hrec
  unfold m_slices_IndexFunc_api_Vec_int32thtbl
  rw [w_lss, outP_val]
  by_cases cj : j < L.length
  · obtain ⟨o, a1, a2, a3⟩ := hs.at cj
    rw [decide_eq_true (by omega), condP_true, a1, outP_val, w_load_c, a3, vO_some, outP_val]
    show CC.call 62 [.int .i32 L[j]] G _
    refine may1_wp _ _ ?_
    cases c : (decide (L[j] < -1048576) || decide (1048576 < L[j])) with
    | true =>
      rw [condP_true]
      exact hK _ ⟨fun _ => List.any_eq_true.2 ⟨L[j], List.getElem_mem cj, c⟩, fun _ => by omega⟩
    | false =>
      rw [condP_false, w_add_in (by omega) (by omega), outP_val]
      refine hrec _ _ ⟨j + 1, by rfl, by omega, rfl, fun x hx => ?_⟩ ?_
      · rw [List.take_succ_eq_append_getElem cj, List.mem_append] at hx
        rcases hx with hx | hx
        · exact hno x hx
        · simp at hx; subst hx; rw [c]; simp
      · show L.length - ((j : Int) + 1).toNat < L.length - (j : Int).toNat
        omega
  · rw [decide_eq_false (by omega), condP_false]
    refine hK _ ⟨fun q => by omega, fun q => ?_⟩
    obtain ⟨x, hx, hx'⟩ := List.any_eq_true.1 q
    exact absurd hx' (hno x (by rw [List.take_of_length_le (by omega)]; exact hx))
theorem may_wp {b : Nat} {s : AV} {V : List Int} (h : Is .i32 H b s V) (dim : Int) (K : AV → AH → Prop) (hK : K (.bool (mayB V dim)) H) : CC.call 41 [s, .int .i64 dim] H K := by
  refine m_vect_May_ok _ _ _ _ ?_
  unfold m_vect_May
  have l1 := h.len vec_sl
  have key := mayB_iff V dim
  have no : ¬ mayB V dim = true → mayB V dim = false := fun q => by cases r : mayB V dim with | true => exact absurd r q | false => rfl
  rw [w_lss, outP_val, boolIs_bool, beq_ff]
  by_cases c1 : dim < 1
  · have e := no fun q => by have := key.1 q; omega
    rw [e] at hK
    rw [decide_eq_true c1, Bool.not_true, guardP_false, guardP_false, w_pick_b, outP_val, if_pos rfl, boolIs_bool, beq_ff, Bool.not_true, guardP_false, guardP_false, guardP_false, guardP_false, w_pick_b, outP_val, if_pos rfl, condP_true]
    exact hK
  · rw [decide_eq_false c1, Bool.not_false, guardP_true, outP_val, guardP_true, w_gtr, outP_val, w_pick_b, outP_val, if_neg (by simp), boolIs_bool, beq_ff]
    by_cases c2 : 8 < dim
    · have e := no fun q => by have := key.1 q; omega
      rw [e] at hK
      rw [decide_eq_true c2, Bool.not_true, guardP_false, guardP_false, guardP_false, guardP_false, w_pick_b, outP_val, if_pos rfl, condP_true]
      exact hK
    · rw [decide_eq_false c2, Bool.not_false, guardP_true, outP_val, guardP_true, l1, outP_val, guardP_true, outP_val, guardP_true, w_neq, outP_val, w_pick_b, outP_val, if_neg (by simp)]
      by_cases c3 : (V.length : Int) = dim
      · rw [decide_eq_true c3, Bool.not_true, condP_false, outP_enter]
        refine m_slices_ContainsFunc_api_Vec_int32_ok _ _ _ _ ?_
        unfold m_slices_ContainsFunc_api_Vec_int32
        rw [outP_enter]
        refine idx_may h (by omega) _ fun i hi => ?_
        rw [w_geq, outP_val]
        show outP CC H (w_un .not H (.bool (decide (0 ≤ i)))) _
        rw [w_not, outP_val]
        have e : mayB V dim = !decide (0 ≤ i) := by
          unfold mayB
          rw [decide_eq_true (by omega), decide_eq_true (by omega), decide_eq_true c3, Bool.true_and, Bool.true_and, Bool.true_and]
          congr 1
          rw [Bool.eq_iff_iff, decide_eq_true_iff]; exact hi.symm
        rw [e] at hK; exact hK
      · have e := no fun q => by have := key.1 q; omega
        rw [e] at hK
        rw [decide_eq_false c3, Bool.not_false, condP_true]
        exact hK

/-! Slices of vectors. -/
abbrev Vq := AV × Nat × List Int
abbrev vrow (Y : List Vq) : List (List AV) := Y.map fun y => [y.1]
structure VEl (H : AH) (y : Vq) : Prop where
  is : Is .i32 H y.2.1 y.1 y.2.2
  in32 : In32 y.2.2
theorem VEl.mono {y : Vq} (h : VEl H y) {m : List Nat} (e : Ext m H H') (hm : y.2.1 ∈ m → y.2.2 = []) : VEl H' y := ⟨Sl.mono' h.is e (fun q => by rw [hm q]; rfl), h.in32⟩
theorem VEl.mono0 {y : Vq} (h : VEl H y) (e : Ext [] H H') : VEl H' y := h.mono e (by simp)
theorem VEl.low {y : Vq} (h : VEl H y) : y.2.1 < H.next ∨ y.2.2 = [] := (Sl.low h.is).imp id fun q => by simpa using q
theorem vrow_at {b : Nat} {s : AV} {Y : List Vq} (h : Sl H 1 b s (vrow Y)) {j : Nat} (hj : j < Y.length) : ∃ o, (∀ G : AH, w_indexAddr (.sl 1) G s (.int .i64 j) = some (.val (.ptr (some (b, o))) G)) ∧ b < H.next ∧ ldV (H.get b) o = some Y[j].1 := by
  obtain ⟨o, h1, h2, h3⟩ := Sl.at h (j := j) (by simpa using hj) .i64
  have e : (vrow Y)[j]'(by simpa using hj) = [Y[j].1] := by simp
  obtain ⟨k1, k2, k3⟩ := Sl.elt h (j := j) (by simpa using hj)
  rw [e] at h3 k2 k3
  exact ⟨o, h1, h2, ldV_of (h3 0 _ rfl) (by simpa using k2) (by simpa using k3)⟩
theorem vrow_len {b : Nat} {s : AV} {Y : List Vq} (h : Sl H 1 b s (vrow Y)) (G : AH) : w_len PP 58 G s = some (.val (.int .i64 Y.length) G) := by
  have := Sl.len (P := PP) h vecs_sl G
  rwa [List.length_map] at this
end
end Go.Ab
