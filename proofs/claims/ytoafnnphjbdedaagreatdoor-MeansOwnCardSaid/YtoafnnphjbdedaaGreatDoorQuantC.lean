/- quant: what codes tell back, as the document says it. -/
import Derived.Test.YtoafnnphjbdedaaGreatDoorQuantB
namespace Go.Ab
noncomputable section
open Go.Proofs
set_option maxRecDepth 10000
variable {H H' : AH}

theorem wrap64_8 {x : Int} (h : 0 ≤ x ∧ x ≤ 255) : IntKind.i64.wrap x = x := wrap64_in (by omega) (by omega)
theorem rBack_wp {lo st v : AV} {bl bs bv : Nat} {Lo St C : List Int} (h : Bk H lo st bl bs Lo St) (hv : Is .u8 H bv v C) (hC : In8 C) (_hCl : C.length ≤ 1000) (K : AV → AH → Prop)
    (hK : ∀ H' s' B, Ext [] H H' → H.next ≤ B → Os 21 .i32 H' B s' (backL Lo St C) → K s' H') : CC.call 42 [.agg [lo, st], v] H K := by
  refine m_fieldfareref1_Book_Back_ok _ _ _ _ ?_
  unfold m_fieldfareref1_Book_Back
  obtain ⟨f1, f2, _, f3⟩ := h.lo.facts
  obtain ⟨g1, g2, _, g3⟩ := h.st.facts
  have l1 := h.lo.len i32_sl
  have lv := hv.len u8_sl
  have b1 := h.lenL
  have x1 : Ext [] H (H.new (.cells 67 [lo, st])) := (Ext.refl _ _).new _
  have hg := get_new_same H (.cells 67 [lo, st])
  have hn : H.next < (H.new (.cells 67 [lo, st])).next := by rw [next_new]; omega
  simp (disch := first | omega | exact one_int _ _ | exact one_slice _ _ _ _ | exact one_ptr _ | assumption | ((repeat (first | rw [next_new] | rw [AH.next_put] | rw [next_more])) <;> omega) | fail) only [outP_val, 
      w_box_c, parts_agg, 
      List.all_cons, List.all_nil, Bool.and_self, br_true, 
      
      f1, g1]
  generalize hG : H.new (.cells 67 [lo, st]) = G at *
  unfold m_fieldfareref1_Book_Backt m_fieldfareref1_Book_Backtt
  simp (disch := first | omega | exact one_int _ _ | exact one_slice _ _ _ _ | exact one_ptr _ | assumption | ((repeat (first | rw [next_new] | rw [AH.next_put] | rw [next_more])) <;> omega) | fail) only [outP_val, outP_enter, w_load_n, 
      vO_some, 
      hg, ldN_two _ f3 g3]
  refine fine_wp (h.mono0 x1) _ fun G1 x2 => ?_
  have hg1 := x2.get hn (by simp) hg
  have n1 := x1.next
  have n2 := x2.next
  have x12 := x1.trans x2
  cases hr : rightB Lo St with
  | false =>
    simp (disch := first | omega | exact one_int _ _ | exact one_slice _ _ _ _ | exact one_ptr _ | assumption | ((repeat (first | rw [next_new] | rw [AH.next_put] | rw [next_more])) <;> omega) | fail) only [outP_val, 
      w_not, 
      condP_true, 
      Bool.not_false ]
    refine hK _ _ G1.next x12 (by omega) ?_
    unfold backL; rw [if_neg (by rw [hr]; simp)]
    exact os_nil _ _ _
  | true =>
    obtain ⟨hle, hpos⟩ := (rightB_iff _ _).1 hr
    have hcl : backL Lo St C = (List.range Lo.length).map (backF Lo St C) := by unfold backL; rw [if_pos hr]
    simp (disch := first | omega | exact one_int _ _ | exact one_slice _ _ _ _ | exact one_ptr _ | assumption | ((repeat (first | rw [next_new] | rw [AH.next_put] | rw [next_more])) <;> omega) | fail) only [outP_val, 
      w_not, 
      condP_false, Bool.not_true 
      ]
    unfold m_fieldfareref1_Book_Backttth
    simp (disch := first | omega | exact one_int _ _ | exact one_slice _ _ _ _ | exact one_ptr _ | assumption | ((repeat (first | rw [next_new] | rw [AH.next_put] | rw [next_more])) <;> omega) | fail) only [outP_val, w_fieldAddr_ptr, w_load_c, ldV_cells, 
      vO_some, Nat.add_zero, List.getElem?_cons_zero, ob_some, 
      
      
      hg1, f2, l1]
    unfold m_fieldfareref1_Book_Backttthtb
    refine loopP_rule (I := fun t G3 => ∃ (j B : Nat) (c : AV), t = (v, .ptr (some (H.next, 0)), c, .int .i64 Lo.length, .int .i64 j) ∧ j ≤ Lo.length ∧ Ext [] G1 G3 ∧ G1.next ≤ B ∧ Os 21 .i32 G3 B c ((List.range j).map (backF Lo St C))) (μ := fun t _ => match t.2.2.2.2 with | .int _ z => Lo.length - z.toNat | _ => 0) ?_ ⟨0, G1.next, _, rfl, Nat.zero_le _, Ext.refl _ _, Nat.le_refl _, os_nil _ _ _⟩
    rintro t G3 ⟨j, B, c, rfl, hj, x4, hB, o3⟩ rec hrec
    unfold m_fieldfareref1_Book_Backttthtbl
    have hg3 : G3.get H.next = _ := x4.get (by omega) (by simp) hg1
    by_cases cj : j < Lo.length
    · have d1 : decide ((j : Int) < (Lo.length : Int)) = true := decide_eq_true (by omega)
      have hb3 : Bk G3 lo st bl bs Lo St := (h.mono0 x12).mono0 x4
      have hv3 : Is .u8 G3 bv v C := Sl.mono (Sl.mono hv x12 (by simp)) x4 (by simp)
      obtain ⟨o1, a1, a2, a3⟩ := hb3.lo.at cj
      obtain ⟨o2', c1, c2, c3⟩ := hb3.st.at (j := j) (by omega)
      have iL := h.inL Lo[j] (List.getElem_mem cj)
      have iS := h.inS (St[j]'(by omega)) (List.getElem_mem _)
      have pS := hpos (St[j]'(by omega)) (List.getElem_mem _)
      have put : ∀ z : Int, 0 ≤ z ∧ z ≤ 255 → backZ Lo[j] (St[j]'(by omega)) z = backF Lo St C j → m_fieldfareref1_Book_Backttthtbltthbttt K rec v (.ptr (some (H.next, 0))) c (.int .i64 j) (.int .i64 z) (.int .i64 Lo.length) (.int .i64 j) G3 := by
        intro z hz0 hz
        unfold m_fieldfareref1_Book_Backttthtbltthbttt
        have hm := mul_bnd ⟨Int.le_trans (by decide) pS, iS.2⟩ hz0
        have e : max (-1048576) (min (Lo[j] + (St[j]'(by omega)) * z) 1048576) = backF Lo St C j := by rw [← hz]; unfold backZ; omega
        simp (disch := first | omega | exact one_int _ _ | exact one_slice _ _ _ _ | exact one_ptr _ | assumption | ((repeat (first | rw [next_new] | rw [AH.next_put] | rw [next_more])) <;> omega) | fail) only [outP_val, w_fieldAddr_ptr, w_load_c, get_more, ldV_cells, 
      vO_some, Nat.zero_add, Nat.add_zero, List.getElem?_cons_zero, List.getElem?_cons_succ, ob_some, 
      w_add, w_cint, wrap64_in, 
      w_min2_int, w_max2_int, 
      nat_add, hg3, f2, g2, a1, a3, c1, c3, wrap64_32 iL, wrap64_32 iS, w_mul, e, wrap32_20 (backF_32 Lo St C j)]
        refine push_num_at i32_el (by omega) o3 (by simp; omega) (by simpa using Own.low o3) _ _ fun G4 s' B' y1 y2 y3 => ?_
        refine hrec _ _ ⟨j + 1, B', s', by rfl, by omega, (x4.mono (m' := [B]) (by simp)).trans y1 |>.mono fun b hb hlt => ?_, ?_, by rw [List.range_succ, List.map_append]; exact y3⟩ ?_
        · simp at hb; omega
        · have := x4.next; omega
        · show Lo.length - ((j : Int) + 1).toNat < Lo.length - (j : Int).toNat
          omega
      simp (disch := first | omega | exact one_int _ _ | exact one_slice _ _ _ _ | exact one_ptr _ | assumption | ((repeat (first | rw [next_new] | rw [AH.next_put] | rw [next_more])) <;> omega) | fail) only [outP_val, 
      w_lss, 
      
      d1]
      unfold m_fieldfareref1_Book_Backttthtblt
      rw [condP_true]
      unfold m_fieldfareref1_Book_Backttthtbltthb m_fieldfareref1_Book_Backttthtbltthbt m_fieldfareref1_Book_Backttthtbltthbtt
      rw [lv, outP_val, w_lss, outP_val]
      by_cases cv : j < C.length
      · obtain ⟨o3', e1, e2, e3⟩ := hv3.at cv
        have iC := hC C[j] (List.getElem_mem cv)
        rw [decide_eq_true (by omega), condP_true]
        rw [e1, outP_val, w_load_c, e3, vO_some, outP_val, w_cint, outP_val, wrap64_8 iC]
        refine put _ iC ?_
        unfold backF; rw [getD_at cj, getD_at (by omega), if_pos cv, getD_at cv]
      · rw [decide_eq_false (by omega), condP_false]
        refine put _ ⟨by decide, by decide⟩ ?_
        unfold backF; rw [getD_at cj, getD_at (by omega), if_neg cv]
    · have d1 : decide ((j : Int) < (Lo.length : Int)) = false := decide_eq_false (by omega)
      simp (disch := first | omega | exact one_int _ _ | exact one_slice _ _ _ _ | exact one_ptr _ | assumption | ((repeat (first | rw [next_new] | rw [AH.next_put] | rw [next_more])) <;> omega) | fail) only [outP_val, 
      w_lss, 
      
      d1]
      unfold m_fieldfareref1_Book_Backttthtblt
      rw [condP_false]
      have : j = Lo.length := by omega
      subst this
      rw [← hcl] at o3
      exact hK _ _ B (x12.trans x4) (by omega) o3
end
end Go.Ab
