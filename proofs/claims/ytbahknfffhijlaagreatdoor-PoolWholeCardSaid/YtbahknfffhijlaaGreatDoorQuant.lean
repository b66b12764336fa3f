/- quant: what its functions do, at any input; the document's, too. -/
import Derived.Test.YtbahknfffhijlaaGreatDoorNums
import Derived.Test.YtbahknfffhijlaaGreatDoorQuantLaw
import Derived.Test.YtbahknfffhijlaaGreatDoorMQ
import Derived.Test.YtbahknfffhijlaaGreatDoorMV
namespace Go.Ab
noncomputable section
open Go.Proofs
set_option maxRecDepth 10000
variable {H H' : AH}

theorem i32_sl : PP.underlying 48 = some (.slice 21) := by kernel_rfl
theorem vec_sl : PP.underlying 49 = some (.slice 21) := by kernel_rfl
theorem u8_sl : PP.underlying 43 = some (.slice 5) := by kernel_rfl
theorem i32_el : elT PP 21 = some (1, [.int .i32 0]) := by kernel_rfl
theorem u8_el : elT PP 5 = some (1, [.int .u8 0]) := by kernel_rfl
theorem i32_by : byOf PP 21 = some 4 := by kernel_rfl
theorem u8_by : byOf PP 5 = some 1 := by kernel_rfl
/-- They fit. -/
abbrev In32 (L : List Int) : Prop := ∀ x ∈ L, -2147483648 ≤ x ∧ x ≤ 2147483647

/-! Is one of them below 1? -/
theorem right1_wp (x : Int) (K : AV → AH → Prop) (hK : K (.bool (decide (x < 1))) H) : CC.call 64 [.int .i32 x] H K := by
  refine m_quant_right_1_ok _ _ _ ?_
  unfold m_quant_right_1
  rw [w_lss, outP_val]; exact hK
theorem idx_right {b : Nat} {s : AV} {L : List Int} (hs : Is .i32 H b s L) (hL : L.length ≤ 1000000) (K : AV → AH → Prop)
    (hK : ∀ i, (0 ≤ i ↔ L.any (fun x => decide (x < 1)) = true) → K (.int .i64 i) H) : CC.call 85 [s, .fn (.func 64) [] []] H K := by
  refine m_slices_IndexFunc_int32_int32_ok _ _ _ _ ?_
  unfold m_slices_IndexFunc_int32_int32 m_slices_IndexFunc_int32_int32th
  rw [hs.len i32_sl, outP_val]
  unfold m_slices_IndexFunc_int32_int32thtb
  refine loopP_rule (I := fun t G => ∃ j : Nat, t = (s, .fn (.func 64) [] [], .int .i64 L.length, .int .i64 j) ∧ j ≤ L.length ∧ G = H ∧ ∀ x ∈ L.take j, ¬ x < 1) (μ := fun t _ => match t.2.2.2 with | .int _ z => L.length - z.toNat | _ => 0) ?_ ⟨0, rfl, Nat.zero_le _, rfl, fun x hx => by simp at hx⟩
  rintro t G ⟨j, rfl, hj, rfl, hno⟩ rec hrec
  unfold m_slices_IndexFunc_int32_int32thtbl
  by_cases cj : j < L.length
  · have d1 : decide ((j : Int) < (L.length : Int)) = true := decide_eq_true (by omega)
    obtain ⟨o, a1, a2, a3⟩ := hs.at cj
    simp (disch := first | omega | exact one_int _ _ | exact one_slice _ _ _ _ | exact one_ptr _ | assumption | ((repeat (first | rw [next_new] | rw [AH.next_put] | rw [next_more])) <;> omega) | fail) only [outP_val, w_load_c, 
      vO_some, 
      w_lss, w_add, wrap64_in, 
      condP_true, 
      d1, a1, a3]
    show CC.call 64 [.int .i32 L[j]] G _
    refine right1_wp _ _ ?_
    simp (disch := first | omega | exact one_int _ _ | exact one_slice _ _ _ _ | exact one_ptr _ | assumption | ((repeat (first | rw [next_new] | rw [AH.next_put] | rw [next_more])) <;> omega) | fail) only [
      
      
      condP_dec 
      ]
    refine ⟨fun c => hK _ ⟨fun _ => List.any_eq_true.2 ⟨L[j], List.getElem_mem cj, by simpa using c⟩, fun _ => by omega⟩, fun c => ?_⟩
    refine hrec _ _ ⟨j + 1, by rfl, by omega, rfl, fun x hx => ?_⟩ ?_
    · rw [List.take_succ_eq_append_getElem cj, List.mem_append] at hx
      rcases hx with hx | hx
      · exact hno x hx
      · simp at hx; subst hx; exact c
    · show L.length - ((j : Int) + 1).toNat < L.length - (j : Int).toNat
      omega
  · have d1 : decide ((j : Int) < (L.length : Int)) = false := decide_eq_false (by omega)
    simp (disch := first | omega | exact one_int _ _ | exact one_slice _ _ _ _ | exact one_ptr _ | assumption | ((repeat (first | rw [next_new] | rw [AH.next_put] | rw [next_more])) <;> omega) | fail) only [outP_val, 
      w_lss, w_add, wrap64_in, 
      condP_false, 
      d1]
    refine hK _ ⟨fun q => by omega, fun q => ?_⟩
    obtain ⟨x, hx, hx'⟩ := List.any_eq_true.1 q
    exact absurd (by simpa using hx') (hno x (by rw [List.take_of_length_le (by omega)]; exact hx))

/-! A book. -/
structure Bk (H : AH) (lo st : AV) (bl bs : Nat) (Lo St : List Int) : Prop where
  lo : Is .i32 H bl lo Lo
  st : Is .i32 H bs st St
  lenL : Lo.length ≤ 1000
  lenS : St.length ≤ 1000
  inL : In32 Lo
  inS : In32 St
theorem Bk.mono {lo st : AV} {bl bs : Nat} {Lo St : List Int} (h : Bk H lo st bl bs Lo St) {m : List Nat} (e : Ext m H H') (h1 : bl ∈ m → Lo = []) (h2 : bs ∈ m → St = []) : Bk H' lo st bl bs Lo St :=
  ⟨Sl.mono' h.lo e (fun q => by rw [h1 q]; rfl), Sl.mono' h.st e (fun q => by rw [h2 q]; rfl), h.lenL, h.lenS, h.inL, h.inS⟩
theorem Bk.mono0 {lo st : AV} {bl bs : Nat} {Lo St : List Int} (h : Bk H lo st bl bs Lo St) (e : Ext [] H H') : Bk H' lo st bl bs Lo St := h.mono e (by simp) (by simp)
def rightB (Lo St : List Int) : Bool := decide (Lo.length = St.length) && !St.any (fun x => decide (x < 1))
theorem rightB_iff (Lo St : List Int) : rightB Lo St = true ↔ Lo.length = St.length ∧ ∀ x ∈ St, 1 ≤ x := by
  unfold rightB
  simp only [Bool.and_eq_true, decide_eq_true_iff, Bool.not_eq_true', List.any_eq_false]
  constructor
  · rintro ⟨h1, h2⟩
    exact ⟨h1, fun x hx => by have := h2 x hx; omega⟩
  · rintro ⟨h1, h2⟩
    exact ⟨h1, fun x hx => by have := h2 x hx; omega⟩
theorem right_wp {lo st : AV} {bl bs : Nat} {Lo St : List Int} (h : Bk H lo st bl bs Lo St) (K : AV → AH → Prop) (hK : ∀ H', Ext [] H H' → K (.bool (rightB Lo St)) H') : CC.call 42 [.agg [lo, st]] H K := by
  refine m_quant_right_ok _ _ _ ?_
  unfold m_quant_right
  obtain ⟨f1, f2, _, f3⟩ := h.lo.facts
  obtain ⟨g1, g2, _, g3⟩ := h.st.facts
  have l1 := h.lo.len i32_sl
  have l2 := h.st.len i32_sl
  have x1 : Ext [] H (H.new (.cells 55 [lo, st])) := (Ext.refl _ _).new _
  have b1 := h.lenL
  have b2 := h.lenS
  by_cases c : Lo.length = St.length
  · have d : decide ((Lo.length : Int) = (St.length : Int)) = true := decide_eq_true (by omega)
    simp (disch := first | omega | exact one_int _ _ | exact one_slice _ _ _ _ | exact one_ptr _ | assumption | ((repeat (first | rw [next_new] | rw [AH.next_put] | rw [next_more])) <;> omega) | fail) only [outP_val, outP_enter, w_fieldAddr_ptr, w_load_c, get_new_eq, ldV_cells, 
      vO_some, Nat.zero_add, Nat.add_zero, List.getElem?_cons_zero, List.getElem?_cons_succ, ob_some, w_box_c, parts_agg, 
      List.all_cons, List.all_nil, Bool.and_self, br_true, w_eql, w_pick_b, 
      boolIs_bool, guardP_true, beq_tt, 
      if_true, f1, f2, g1, g2, l1, l2, d, outP_enter]
    refine m_slices_ContainsFunc_int32_int32_ok _ _ _ _ ?_
    unfold m_slices_ContainsFunc_int32_int32
    rw [outP_enter]
    refine idx_right (h.st.mono x1 (by simp)) (by omega) _ fun i hi => ?_
    simp (disch := first | omega | exact one_int _ _ | exact one_slice _ _ _ _ | exact one_ptr _ | assumption | ((repeat (first | rw [next_new] | rw [AH.next_put] | rw [next_more])) <;> omega) | fail) only [outP_val, 
      w_geq, w_not 
      
      ]
    have e : rightB Lo St = !decide (0 ≤ i) := by
      unfold rightB
      rw [decide_eq_true c, Bool.true_and]
      congr 1
      rw [Bool.eq_iff_iff, decide_eq_true_iff]; exact hi.symm
    have := hK _ x1
    rw [e] at this; exact this
  · have d : decide ((Lo.length : Int) = (St.length : Int)) = false := decide_eq_false (by omega)
    simp (disch := first | omega | exact one_int _ _ | exact one_slice _ _ _ _ | exact one_ptr _ | assumption | ((repeat (first | rw [next_new] | rw [AH.next_put] | rw [next_more])) <;> omega) | fail) only [outP_val, w_fieldAddr_ptr, w_load_c, get_new_eq, ldV_cells, 
      vO_some, Nat.zero_add, Nat.add_zero, List.getElem?_cons_zero, List.getElem?_cons_succ, ob_some, w_box_c, parts_agg, 
      List.all_cons, List.all_nil, Bool.and_self, br_true, w_eql, w_pick_b, 
      boolIs_bool, guardP_false, beq_tt, 
      if_false, Bool.false_eq_true, f1, f2, g1, g2, l1, l2, d]
    have e : rightB Lo St = false := by unfold rightB; rw [decide_eq_false c]; rfl
    have := hK _ x1
    rw [e] at this; exact this
/-! The whole part. -/
theorem floor_wp {a b : Int} (hb : 0 < b) (ha : -4611686018427387904 ≤ a ∧ a ≤ 4611686018427387904) (K : AV → AH → Prop) (hK : K (.int .i64 (a / b)) H) : CC.call 43 [.int .i64 a, .int .i64 b] H K := by
  refine m_quant_floor_ok _ _ _ _ ?_
  unfold m_quant_floor
  have h1 := Int.natAbs_tdiv_le_natAbs a b
  have h2 := floor_eq (a := a) hb
  have hne : b ≠ 0 := by omega
  rw [w_quo _ _ _ hne, outP_val, wrap64_in (by omega) (by omega), w_rem _ _ _ hne, outP_val, w_lss, outP_val]
  by_cases c : a.tmod b < 0
  · rw [decide_eq_true c, condP_true, w_sub, outP_val, wrap64_in (by omega) (by omega)]
    rw [if_pos c] at h2; rw [h2]; exact hK
  · rw [decide_eq_false c, condP_false]
    rw [if_neg c] at h2; rw [h2]; exact hK
end
end Go.Ab
