/- quant: bounds; are two vectors one; QuantAny: what it does, at any input. -/
import Derived.Test.YtoafnnphjbdedaaGreatDoorQuantC
import Derived.Test.YtoafnnphjbdedaaGreatDoorM11
namespace Go.Ab
noncomputable section
open Go.Proofs
set_option maxRecDepth 10000
variable {H H' : AH}

theorem max_wp {b : Nat} {s : AV} {L : List Int} (hs : Is .i32 H b s L) (hL : L.length ≤ 1000) (h0 : 0 < L.length) (K : AV → AH → Prop) (hK : ∀ m, m ∈ L → (∀ x ∈ L, x ≤ m) → K (.int .i32 m) H) : CC.call 76 [s] H K := by
  refine m_slices_Max_int32_int32_ok _ _ _ ?_
  unfold m_slices_Max_int32_int32 m_slices_Max_int32_int32t
  have l1 := hs.len i32_sl
  rw [l1, outP_val, w_lss, outP_val, decide_eq_false (by omega), condP_false]
  unfold m_slices_Max_int32_int32tt
  obtain ⟨o, a1, a2, a3⟩ := hs.at h0
  have a1' := a1 H
  rw [show (((0 : Nat) : Int)) = 0 from rfl] at a1'
  rw [a1', outP_val, w_load_c, a3, vO_some, outP_val]
  unfold m_slices_Max_int32_int32ttth m_slices_Max_int32_int32ttthtb
  refine loopP_rule (I := fun t G => ∃ (j : Nat) (m : Int), t = (s, .int .i32 m, .int .i64 ((j + 1 : Nat) : Int)) ∧ j + 1 ≤ L.length ∧ G = H ∧ m ∈ L ∧ ∀ x ∈ L.take (j + 1), x ≤ m) (μ := fun t _ => match t.2.2 with | .int _ z => L.length - z.toNat | _ => 0) ?_ ⟨0, L[0], rfl, by omega, rfl, List.getElem_mem _, fun x hx => ?_⟩
  · rintro t G ⟨j, m, rfl, hj, rfl, hm, hall⟩ rec hrec
    unfold m_slices_Max_int32_int32ttthtbl
    rw [l1, outP_val, w_lss, outP_val]
    by_cases cj : j + 1 < L.length
    · obtain ⟨o, a1, a2, a3⟩ := hs.at cj
      rw [decide_eq_true (by omega), condP_true, a1, outP_val, w_load_c, a3, vO_some, outP_val, w_max2_int, outP_val, w_add_in (by omega) (by omega), outP_val]
      refine hrec _ _ ⟨j + 1, max m L[j + 1], by rfl, by omega, rfl, ?_, fun x hx => ?_⟩ ?_
      · rcases Int.le_total m L[j + 1] with q | q
        · rw [Int.max_eq_right q]; exact List.getElem_mem _
        · rw [Int.max_eq_left q]; exact hm
      · rw [List.take_succ_eq_append_getElem cj, List.mem_append] at hx
        rcases hx with hx | hx
        · have := hall x hx; omega
        · simp at hx; omega
      · show L.length - (((j + 1 : Nat) : Int) + 1).toNat < L.length - ((j + 1 : Nat) : Int).toNat
        omega
    · rw [decide_eq_false (by omega), condP_false]
      exact hK m hm fun x hx => hall x (by rw [List.take_of_length_le (by omega)]; exact hx)
  · rw [List.take_succ_eq_append_getElem h0] at hx
    simp at hx; omega

def boundL (Lo St : List Int) : Int := if rightB Lo St = true then St.foldl (fun n x => max n ((x + 1) / 2)) 0 else 0
theorem bound_facts : ∀ (L : List Int) (n : Int), n ≤ L.foldl (fun n x => max n ((x + 1) / 2)) n ∧ (∀ x ∈ L, (x + 1) / 2 ≤ L.foldl (fun n x => max n ((x + 1) / 2)) n) ∧ (L.foldl (fun n x => max n ((x + 1) / 2)) n = n ∨ ∃ x ∈ L, L.foldl (fun n x => max n ((x + 1) / 2)) n = (x + 1) / 2)
  | [], n => ⟨Int.le_refl _, by simp, .inl rfl⟩
  | y :: L, n => by
    obtain ⟨h1, h2, h3⟩ := bound_facts L (max n ((y + 1) / 2))
    rw [List.foldl_cons]
    generalize L.foldl (fun n x => max n ((x + 1) / 2)) (max n ((y + 1) / 2)) = F at *
    refine ⟨by omega, fun x hx => ?_, ?_⟩
    · rcases List.mem_cons.1 hx with rfl | hx
      · omega
      · exact h2 x hx
    · rcases h3 with h3 | ⟨x, hx, h3⟩
      · rcases Int.le_total n ((y + 1) / 2) with q | q
        · exact .inr ⟨y, by simp, by omega⟩
        · exact .inl (by omega)
      · exact .inr ⟨x, by simp [hx], h3⟩
theorem boundL_max {Lo St : List Int} (hr : rightB Lo St = true) {m : Int} (hm : m ∈ St) (hall : ∀ x ∈ St, x ≤ m) : boundL Lo St = (m + 1) / 2 := by
  have hp := ((rightB_iff _ _).1 hr).2 m hm
  obtain ⟨h1, h2, h3⟩ := bound_facts St 0
  unfold boundL
  rw [if_pos hr]
  generalize St.foldl (fun n x => max n ((x + 1) / 2)) 0 = F at *
  have := h2 m hm
  rcases h3 with h3 | ⟨x, hx, h3⟩
  · omega
  · have := hall x hx; omega
theorem wrap32_31 {x : Int} (h : -2147483648 ≤ x ∧ x ≤ 2147483647) : IntKind.i32.wrap x = x := wrap32_in (by omega) (by omega)
theorem qBound_wp {lo st : AV} {bl bs : Nat} {Lo St : List Int} (h : Bk H lo st bl bs Lo St) (K : AV → AH → Prop) (hK : ∀ H', Ext [] H H' → K (.int .i32 (boundL Lo St)) H') : CC.call 37 [.agg [lo, st]] H K := by
  refine m_quant_Bound_ok _ _ _ ?_
  unfold m_quant_Bound
  obtain ⟨f1, f2, _, f3⟩ := h.lo.facts
  obtain ⟨g1, g2, _, g3⟩ := h.st.facts
  have l2 := h.st.len i32_sl
  have b2 := h.lenS
  have x1 : Ext [] H (H.new (.cells 65 [lo, st])) := (Ext.refl _ _).new _
  have hg := get_new_same H (.cells 65 [lo, st])
  have hn : H.next < (H.new (.cells 65 [lo, st])).next := by rw [next_new]; omega
  simp (disch := first | omega | exact one_int _ _ | exact one_slice _ _ _ _ | exact one_ptr _ | assumption | ((repeat (first | rw [next_new] | rw [AH.next_put] | rw [next_more])) <;> omega) | fail) only [outP_val, outP_enter, w_fieldAddr_ptr, w_load_c, w_load_n, get_new_eq, 
      vO_some, Nat.zero_add, w_box_c, parts_agg, 
      List.all_cons, List.all_nil, Bool.and_self, br_true, 
      
      f1, g1, ldN_two _ f3 g3]
  generalize hG : H.new (.cells 65 [lo, st]) = G at *
  refine right_wp (h.mono0 x1) _ fun G1 x2 => ?_
  have hg1 := x2.get hn (by simp) hg
  have x12 := x1.trans x2
  cases hr : rightB Lo St with
  | false =>
    simp (disch := first | omega | exact one_int _ _ | exact one_slice _ _ _ _ | exact one_ptr _ | assumption | ((repeat (first | rw [next_new] | rw [AH.next_put] | rw [next_more])) <;> omega) | fail) only [outP_val, 
      w_not, w_pick_b, 
      condP_true, boolIs_bool, guardP_false, beq_ff, Bool.not_true, 
      Bool.not_false, if_true ]
    have e : boundL Lo St = 0 := by unfold boundL; rw [if_neg (by rw [hr]; simp)]
    have := hK _ x12
    rw [e] at this; exact this
  | true =>
    by_cases c : St.length = 0
    · have d : decide ((St.length : Int) = 0) = true := decide_eq_true (by omega)
      simp (disch := first | omega | exact one_int _ _ | exact one_slice _ _ _ _ | exact one_ptr _ | assumption | ((repeat (first | rw [next_new] | rw [AH.next_put] | rw [next_more])) <;> omega) | fail) only [outP_val, w_load_c, ldV_cells, 
      vO_some, List.getElem?_cons_zero, List.getElem?_cons_succ, ob_some, 
      w_eql, w_not, w_pick_b, 
      condP_true, boolIs_bool, guardP_true, beq_ff, Bool.not_true, 
      Bool.not_false, if_false, Bool.false_eq_true, hg1, g2, l2, d]
      have e : boundL Lo St = 0 := by unfold boundL; rw [if_pos hr, List.eq_nil_of_length_eq_zero c]; rfl
      have := hK _ x12
      rw [e] at this; exact this
    · have d : decide ((St.length : Int) = 0) = false := decide_eq_false (by omega)
      simp (disch := first | omega | exact one_int _ _ | exact one_slice _ _ _ _ | exact one_ptr _ | assumption | ((repeat (first | rw [next_new] | rw [AH.next_put] | rw [next_more])) <;> omega) | fail) only [outP_val, w_load_c, ldV_cells, 
      vO_some, List.getElem?_cons_zero, List.getElem?_cons_succ, ob_some, 
      w_eql, w_not, w_pick_b, 
      condP_false, boolIs_bool, guardP_true, beq_ff, Bool.not_true, 
      Bool.not_false, if_false, Bool.false_eq_true, hg1, g2, l2, d]
      refine max_wp (Sl.mono h.st x12 (by simp)) b2 (by omega) _ fun m hm hall => ?_
      have hp := ((rightB_iff _ _).1 hr).2 m hm
      have hi := h.inS m hm
      have e := boundL_max hr hm hall
      rw [w_cint, outP_val, wrap64_32 hi, w_add_in (by omega) (by omega), outP_val, w_quo _ _ _ (show (2 : Int) ≠ 0 by decide), outP_val, tdiv2 (by omega), wrap64_in (by omega) (by omega), w_cint, outP_val, wrap32_31 (by omega), ← e]
      exact hK _ x12
theorem rBound_wp {lo st : AV} {bl bs : Nat} {Lo St : List Int} (h : Bk H lo st bl bs Lo St) (K : AV → AH → Prop) (hK : ∀ H', Ext [] H H' → K (.int .i32 (boundL Lo St)) H') : CC.call 38 [.agg [lo, st]] H K := by
  refine m_fieldfareref1_Book_Bound_ok _ _ _ ?_
  unfold m_fieldfareref1_Book_Bound
  obtain ⟨f1, f2, _, f3⟩ := h.lo.facts
  obtain ⟨g1, g2, _, g3⟩ := h.st.facts
  have l2 := h.st.len i32_sl
  have b2 := h.lenS
  have x1 : Ext [] H (H.new (.cells 67 [lo, st])) := (Ext.refl _ _).new _
  have hg := get_new_same H (.cells 67 [lo, st])
  have hn : H.next < (H.new (.cells 67 [lo, st])).next := by rw [next_new]; omega
  simp (disch := first | omega | exact one_int _ _ | exact one_slice _ _ _ _ | exact one_ptr _ | assumption | ((repeat (first | rw [next_new] | rw [AH.next_put] | rw [next_more])) <;> omega) | fail) only [outP_val, 
      w_box_c, parts_agg, 
      List.all_cons, List.all_nil, Bool.and_self, br_true, 
      
      f1, g1]
  generalize hG : H.new (.cells 67 [lo, st]) = G at *
  unfold m_fieldfareref1_Book_Boundt m_fieldfareref1_Book_Boundtt
  simp (disch := first | omega | exact one_int _ _ | exact one_slice _ _ _ _ | exact one_ptr _ | assumption | ((repeat (first | rw [next_new] | rw [AH.next_put] | rw [next_more])) <;> omega) | fail) only [outP_val, outP_enter, w_load_n, 
      vO_some, 
      hg, ldN_two _ f3 g3]
  refine fine_wp (h.mono0 x1) _ fun G1 x2 => ?_
  have hg1 := x2.get hn (by simp) hg
  have x12 := x1.trans x2
  cases hr : rightB Lo St with
  | false =>
    simp (disch := first | omega | exact one_int _ _ | exact one_slice _ _ _ _ | exact one_ptr _ | assumption | ((repeat (first | rw [next_new] | rw [AH.next_put] | rw [next_more])) <;> omega) | fail) only [outP_val, 
      w_not, 
      condP_true, 
      Bool.not_false ]
    have e : boundL Lo St = 0 := by unfold boundL; rw [if_neg (by rw [hr]; simp)]
    have := hK _ x12
    rw [e] at this; exact this
  | true =>
    have hpos := ((rightB_iff _ _).1 hr).2
    simp (disch := first | omega | exact one_int _ _ | exact one_slice _ _ _ _ | exact one_ptr _ | assumption | ((repeat (first | rw [next_new] | rw [AH.next_put] | rw [next_more])) <;> omega) | fail) only [outP_val, 
      w_not, 
      condP_false, Bool.not_true 
      ]
    unfold m_fieldfareref1_Book_Boundttth
    simp (disch := first | omega | exact one_int _ _ | exact one_slice _ _ _ _ | exact one_ptr _ | assumption | ((repeat (first | rw [next_new] | rw [AH.next_put] | rw [next_more])) <;> omega) | fail) only [outP_val, w_fieldAddr_ptr, w_load_c, ldV_cells, 
      vO_some, Nat.zero_add, List.getElem?_cons_zero, List.getElem?_cons_succ, ob_some, 
      
      
      hg1, g2, l2]
    unfold m_fieldfareref1_Book_Boundttthtb
    have hst : Is .i32 G1 bs st St := Sl.mono h.st x12 (by simp)
    refine loopP_rule (I := fun t G => ∃ (j : Nat) (n : Int), t = (.ptr (some (H.next, 0)), .int .i64 n, .int .i64 St.length, .int .i64 j) ∧ j ≤ St.length ∧ G = G1 ∧ n = (St.take j).foldl (fun n x => max n ((x + 1) / 2)) 0 ∧ 0 ≤ n ∧ n ≤ 1073741824) (μ := fun t _ => match t.2.2.2 with | .int _ z => St.length - z.toNat | _ => 0) ?_ ⟨0, 0, rfl, Nat.zero_le _, rfl, rfl, by decide, by decide⟩
    rintro t G ⟨j, n, rfl, hj, rfl, hn', hn0, hn1⟩ rec hrec
    unfold m_fieldfareref1_Book_Boundttthtbl
    rw [w_lss, outP_val]
    by_cases cj : j < St.length
    · obtain ⟨o, a1, a2, a3⟩ := hst.at cj
      have hi := h.inS St[j] (List.getElem_mem cj)
      have hp := hpos St[j] (List.getElem_mem cj)
      rw [decide_eq_true (by omega), condP_true, w_fieldAddr_ptr, outP_val, w_load_c, hg1, ldV_cells, Nat.zero_add, show ([lo, st] : List AV)[1]? = some st from rfl, ob_some, g2, vO_some, outP_val, a1, outP_val, w_load_c, a3, vO_some, outP_val, w_cint, outP_val, wrap64_32 hi, w_add_in (by omega) (by omega), outP_val, w_quo _ _ _ (show (2 : Int) ≠ 0 by decide), outP_val, tdiv2 (by omega), wrap64_in (by omega) (by omega), w_max2_int, outP_val, w_add_in (by omega) (by omega), outP_val]
      refine hrec _ _ ⟨j + 1, max n ((St[j] + 1) / 2), by rfl, by omega, rfl, ?_, by omega, by omega⟩ ?_
      · rw [List.take_succ_eq_append_getElem cj, List.foldl_append, ← hn']; rfl
      · show St.length - ((j : Int) + 1).toNat < St.length - (j : Int).toNat
        omega
    · rw [decide_eq_false (by omega), condP_false, w_cint, outP_val, wrap32_31 (by omega)]
      rw [List.take_of_length_le (by omega)] at hn'
      have e : boundL Lo St = n := by unfold boundL; rw [if_pos hr, ← hn']
      rw [← e]
      exact hK _ x12

/-! Are two vectors one? -/
theorem vecEq_wp {b b' : Nat} {s s' : AV} {L M : List Int} (h : Is .i32 H b s L) (h' : Is .i32 H b' s' M) (hL : L.length ≤ 1000000) (K : AV → AH → Prop) (hK : K (.bool (decide (L = M))) H) : CC.call 19 [s, s'] H K := by
  refine m_vect_Eq_ok _ _ _ _ ?_
  unfold m_vect_Eq
  rw [outP_enter]
  refine m_slices_Equal_api_Vec_int32_ok _ _ _ _ ?_
  unfold m_slices_Equal_api_Vec_int32 m_slices_Equal_api_Vec_int32t
  have l1 := h.len vec_sl
  have l2 := h'.len vec_sl
  rw [l1, outP_val, l2, outP_val, w_neq, outP_val]
  by_cases c : L.length = M.length
  · rw [decide_eq_true (by omega), Bool.not_true, condP_false]
    unfold m_slices_Equal_api_Vec_int32tth m_slices_Equal_api_Vec_int32tthtb
    rw [l1, outP_val]
    refine loopP_rule (I := fun t G => ∃ j : Nat, t = (s, s', .int .i64 L.length, .int .i64 j) ∧ G = H ∧ j ≤ L.length ∧ ∀ i (hi : i < L.length), i < j → L[i] = M[i]'(by omega)) (μ := fun t _ => match t.2.2.2 with | .int _ z => L.length - z.toNat | _ => 0) ?_ ⟨0, rfl, rfl, Nat.zero_le _, fun i hi q => absurd q (by omega)⟩
    rintro t G ⟨j, rfl, rfl, hj, hsame⟩ rec hrec
    unfold m_slices_Equal_api_Vec_int32tthtbl
    rw [w_lss, outP_val]
    by_cases cj : j < L.length
    · obtain ⟨o1, a1, a2, a3⟩ := h.at cj
      obtain ⟨o2, b1, b2, b3⟩ := h'.at (j := j) (by omega)
      rw [decide_eq_true (by omega), condP_true, a1, outP_val, w_load_c, a3, vO_some, outP_val, b1, outP_val, w_load_c, b3, vO_some, outP_val, w_neq, outP_val]
      by_cases q : L[j] = M[j]'(by omega)
      · rw [decide_eq_true q, Bool.not_true, condP_false, w_add_in (by omega) (by omega), outP_val]
        refine hrec _ _ ⟨j + 1, by rfl, rfl, by omega, fun i hi hij => ?_⟩ ?_
        · rcases Nat.lt_or_ge i j with r | r
          · exact hsame i hi r
          · have : i = j := by omega
            subst this; exact q
        · show L.length - ((j : Int) + 1).toNat < L.length - (j : Int).toNat
          omega
      · rw [decide_eq_false q, Bool.not_false, condP_true]
        have : ¬ L = M := fun e => q (by subst e; rfl)
        rw [decide_eq_false this] at hK; exact hK
    · rw [decide_eq_false (by omega), condP_false]
      have : L = M := List.ext_getElem c fun i h1 h2 => hsame i h1 (by omega)
      rw [decide_eq_true this] at hK; exact hK
  · rw [decide_eq_false (by omega), Bool.not_false, condP_true]
    have : ¬ L = M := fun q => c (by rw [q])
    rw [decide_eq_false this] at hK; exact hK

/-! The law. -/
def SlK (s : AV) : Prop := s = .slice none 0 0 true ∨ (∃ b o, s = .tail b o) ∨ ∃ b o n c ex, s = .slice (some (b, o)) n c ex
theorem Sl.slk {sz b : Nat} {s : AV} {X : List (List AV)} (h : Sl H sz b s X) : SlK s := by
  obtain ⟨rfl | ⟨_, _, rfl⟩, _⟩ | ⟨o, c, ex, rfl, _, _⟩ := h.ex
  · exact .inl rfl
  · exact .inr (.inl ⟨_, _, rfl⟩)
  · exact .inr (.inr ⟨_, _, _, _, _, rfl⟩)
theorem book_build {s1 s2 : AV} (h1 : SlK s1) (h2 : SlK s2) : w_build PP 65 H [(0, s1), (1, s2)] = some (.val (.agg [s1, s2]) H) := by
  rcases h1 with rfl | ⟨_, _, rfl⟩ | ⟨_, _, _, _, _, rfl⟩ <;> rcases h2 with rfl | ⟨_, _, rfl⟩ | ⟨_, _, _, _, _, rfl⟩ <;> kernel_rfl
theorem rbook_build {s1 s2 : AV} (h1 : SlK s1) (h2 : SlK s2) : w_build PP 67 H [(0, s1), (1, s2)] = some (.val (.agg [s1, s2]) H) := by
  rcases h1 with rfl | ⟨_, _, rfl⟩ | ⟨_, _, _, _, _, rfl⟩ <;> rcases h2 with rfl | ⟨_, _, rfl⟩ | ⟨_, _, _, _, _, rfl⟩ <;> kernel_rfl
theorem beq_slk {s : AV} (h : SlK s) : AV.beq s s = true := by
  rcases h with rfl | ⟨_, _, rfl⟩ | ⟨_, _, _, _, ex, rfl⟩
  · rfl
  · simp [AV.beq]
  · cases ex <;> simp [AV.beq]
theorem beq_two {s1 s2 : AV} (h1 : SlK s1) (h2 : SlK s2) : AV.beq (.agg [s1, s2]) (.agg [s1, s2]) = true := by
  simp [AV.beq, AV.beqL, beq_slk h1, beq_slk h2]
theorem beq_str (a : List UInt8) : AV.beq (.str a) (.str a) = true := by simp [AV.beq, strEq_eq]
end
end Go.Ab
