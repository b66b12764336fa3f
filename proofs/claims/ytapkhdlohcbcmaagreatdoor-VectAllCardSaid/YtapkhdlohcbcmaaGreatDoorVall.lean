/- fieldfarelaw7.VectAll: what it does, at any input. -/
import Derived.Test.YtapkhdlohcbcmaaGreatDoorVput
import Derived.Test.YtapkhdlohcbcmaaGreatDoorRMake
import Derived.Test.YtapkhdlohcbcmaaGreatDoorMid
import Derived.Test.YtapkhdlohcbcmaaGreatDoorN8
namespace Go.Ab
noncomputable section
open Go.Proofs
set_option maxRecDepth 10000
variable {H H' : AH}

theorem bool_neqS (b : Bool) : w_eq PP .neq 4 false false H (.bool b) (.bool b) = some (.val (.bool false) H) := by cases b <;> kernel_rfl
theorem str_neS (a : List UInt8) : w_str .neq H (.str a) (.str a) = some (.val (.bool false) H) := by
  have h : strEq a a = true := by rw [strEq_eq, beq_iff_eq]
  show vO H (some (.bool (not (strEq a a)))) = _
  rw [h]; rfl
theorem encV_byA {V : List Int} (hV : In32 V) (hl : V.length ≤ 100) : By (encV V) := fun x hx => by
  unfold encV at hx
  rcases List.mem_append.1 hx with q | q
  · exact enc_by (enc8 hl) x q
  · obtain ⟨z, hz, hx⟩ := List.mem_flatMap.1 q
    exact enc_by (in32_64 hV z hz) x hx
theorem vectAll_wp {b bu bb : Nat} {s su sb : AV} {V0 U0 B0 : List Int} (dim : Int) (h : Is .i32 H b s V0) (hu : Is .i32 H bu su U0) (hb : Is .u8 H bb sb B0) (hV0 : In32 V0) (hB0 : By B0) (hl : Laid H) (K : AV → AH → Prop) (hK : ∀ H', Ext [] H H' → K (.bool true) H') :
    CC.call 8 [s, su, .int .i64 dim, sb] H K := by
  refine m_fieldfarelaw7_VectAll_ok _ _ _ _ _ _ ?_
  unfold m_fieldfarelaw7_VectAll
  rw [outP_enter]
  refine begun_wp hl _ ?_
  obtain ⟨sc, c1, c2⟩ := h.cut (min V0.length 12) (Nat.min_le_left _ _)
  obtain ⟨uc, d1, d2⟩ := hu.cut (min U0.length 12) (Nat.min_le_left _ _)
  obtain ⟨bc, b1, b2⟩ := hb.cut (min B0.length 30) (Nat.min_le_left _ _)
  rw [w_not, outP_val, Bool.not_true, condP_false, h.len vec_sl, outP_val, w_min2_int, outP_val, show min (V0.length : Int) 12 = ((min V0.length 12 : Nat) : Int) by omega, c1, outP_val,
    hu.len vec_sl, outP_val, w_min2_int, outP_val, show min (U0.length : Int) 12 = ((min U0.length 12 : Nat) : Int) by omega, d1, outP_val,
    hb.len u8_sl, outP_val, w_min2_int, outP_val, show min (B0.length : Int) 30 = ((min B0.length 30 : Nat) : Int) by omega, b1, outP_val]
  have hV : In32 (V0.take (min V0.length 12)) := fun x q => hV0 x (List.mem_of_mem_take q)
  have hB : By (B0.take (min B0.length 30)) := fun x q => hB0 x (List.mem_of_mem_take q)
  have lV : (V0.take (min V0.length 12)).length ≤ 12 := by rw [List.length_take]; omega
  have lU : (U0.take (min U0.length 12)).length ≤ 12 := by rw [List.length_take]; omega
  have lB : (B0.take (min B0.length 30)).length ≤ 30 := by rw [List.length_take]; omega
  generalize V0.take (min V0.length 12) = V at *
  generalize U0.take (min U0.length 12) = U at *
  generalize B0.take (min B0.length 30) = B at *
  rw [outP_enter]
  refine may_wp c2 dim _ ?_
  rw [outP_enter]
  refine rMay_wp c2 dim _ ?_
  rw [bool_neqS]
  repeat (first | rw [outP_val] | rw [guardP_true] | rw [guardP_false] | rw [condP_true] | rw [condP_false] | rw [boolIs_bool] | rw [boolIs_undef] | rw [beq_tt] | rw [beq_ff] | rw [Bool.not_true] | rw [Bool.not_false] | rw [outP_skip] | rw [w_pick_b] | rw [if_pos rfl] | rw [if_neg Bool.false_ne_true] | rw [w_fieldAddr_ptr] | rw [w_nil_ptr] | rw [Nat.zero_add] | rw [w_load_c] | rw [w_load_n] | rw [vO_some] | rw [w_store_c] | rw [w_not] | rw [w_lss] | rw [w_leq] | rw [w_gtr] | rw [w_geq] | rw [w_eql] | rw [w_neq] | rw [w_cint] | rw [w_min2_int] | rw [w_max2_int] | rw [w_add_in (by omega) (by omega)] | rw [w_sub_in (by omega) (by omega)] | rw [w_mul_in (by omega) (by omega)])
  rw [outP_enter]
  refine vecEq_wp c2 d2 (by omega) _ ?_
  repeat (first | rw [outP_val] | rw [guardP_true] | rw [guardP_false] | rw [condP_true] | rw [condP_false] | rw [boolIs_bool] | rw [boolIs_undef] | rw [beq_tt] | rw [beq_ff] | rw [Bool.not_true] | rw [Bool.not_false] | rw [outP_skip] | rw [w_pick_b] | rw [if_pos rfl] | rw [if_neg Bool.false_ne_true] | rw [w_fieldAddr_ptr] | rw [w_nil_ptr] | rw [Nat.zero_add] | rw [w_load_c] | rw [w_load_n] | rw [vO_some] | rw [w_store_c] | rw [w_not] | rw [w_lss] | rw [w_leq] | rw [w_gtr] | rw [w_geq] | rw [w_eql] | rw [w_neq] | rw [w_cint] | rw [w_min2_int] | rw [w_max2_int] | rw [w_add_in (by omega) (by omega)] | rw [w_sub_in (by omega) (by omega)] | rw [w_mul_in (by omega) (by omega)])
  rw [outP_enter]
  refine rEq_wp c2 d2 (by omega) _ ?_
  repeat (first | rw [outP_val] | rw [guardP_true] | rw [guardP_false] | rw [condP_true] | rw [condP_false] | rw [boolIs_bool] | rw [boolIs_undef] | rw [beq_tt] | rw [beq_ff] | rw [Bool.not_true] | rw [Bool.not_false] | rw [outP_skip] | rw [w_pick_b] | rw [if_pos rfl] | rw [if_neg Bool.false_ne_true] | rw [w_fieldAddr_ptr] | rw [w_nil_ptr] | rw [Nat.zero_add] | rw [w_load_c] | rw [w_load_n] | rw [vO_some] | rw [w_store_c] | rw [w_not] | rw [w_lss] | rw [w_leq] | rw [w_gtr] | rw [w_geq] | rw [w_eql] | rw [w_neq] | rw [w_cint] | rw [w_min2_int] | rw [w_max2_int] | rw [w_add_in (by omega) (by omega)] | rw [w_sub_in (by omega) (by omega)] | rw [w_mul_in (by omega) (by omega)])
  rw [bool_neqS]
  repeat (first | rw [outP_val] | rw [guardP_true] | rw [guardP_false] | rw [condP_true] | rw [condP_false] | rw [boolIs_bool] | rw [boolIs_undef] | rw [beq_tt] | rw [beq_ff] | rw [Bool.not_true] | rw [Bool.not_false] | rw [outP_skip] | rw [w_pick_b] | rw [if_pos rfl] | rw [if_neg Bool.false_ne_true] | rw [w_fieldAddr_ptr] | rw [w_nil_ptr] | rw [Nat.zero_add] | rw [w_load_c] | rw [w_load_n] | rw [vO_some] | rw [w_store_c] | rw [w_not] | rw [w_lss] | rw [w_leq] | rw [w_gtr] | rw [w_geq] | rw [w_eql] | rw [w_neq] | rw [w_cint] | rw [w_min2_int] | rw [w_max2_int] | rw [w_add_in (by omega) (by omega)] | rw [w_sub_in (by omega) (by omega)] | rw [w_mul_in (by omega) (by omega)])
  rw [outP_enter]
  refine copy_wp c2 (by omega) _ fun G0 s1 B1 x0 hB1 o1 => ?_
  repeat (first | rw [outP_val] | rw [guardP_true] | rw [guardP_false] | rw [condP_true] | rw [condP_false] | rw [boolIs_bool] | rw [boolIs_undef] | rw [beq_tt] | rw [beq_ff] | rw [Bool.not_true] | rw [Bool.not_false] | rw [outP_skip] | rw [w_pick_b] | rw [if_pos rfl] | rw [if_neg Bool.false_ne_true] | rw [w_fieldAddr_ptr] | rw [w_nil_ptr] | rw [Nat.zero_add] | rw [w_load_c] | rw [w_load_n] | rw [vO_some] | rw [w_store_c] | rw [w_not] | rw [w_lss] | rw [w_leq] | rw [w_gtr] | rw [w_geq] | rw [w_eql] | rw [w_neq] | rw [w_cint] | rw [w_min2_int] | rw [w_max2_int] | rw [w_add_in (by omega) (by omega)] | rw [w_sub_in (by omega) (by omega)] | rw [w_mul_in (by omega) (by omega)])
  have cV : ∀ {G : AH}, Ext [] H G → Is .i32 G b sc V := fun x => Sl.mono c2 x (by simp)
  rw [outP_enter]
  refine vecEq_wp (cV x0) o1.is (by omega) _ ?_
  rw [decide_eq_true (show V = V from rfl)]
  repeat (first | rw [outP_val] | rw [guardP_true] | rw [guardP_false] | rw [condP_true] | rw [condP_false] | rw [boolIs_bool] | rw [boolIs_undef] | rw [beq_tt] | rw [beq_ff] | rw [Bool.not_true] | rw [Bool.not_false] | rw [outP_skip] | rw [w_pick_b] | rw [if_pos rfl] | rw [if_neg Bool.false_ne_true] | rw [w_fieldAddr_ptr] | rw [w_nil_ptr] | rw [Nat.zero_add] | rw [w_load_c] | rw [w_load_n] | rw [vO_some] | rw [w_store_c] | rw [w_not] | rw [w_lss] | rw [w_leq] | rw [w_gtr] | rw [w_geq] | rw [w_eql] | rw [w_neq] | rw [w_cint] | rw [w_min2_int] | rw [w_max2_int] | rw [w_add_in (by omega) (by omega)] | rw [w_sub_in (by omega) (by omega)] | rw [w_mul_in (by omega) (by omega)])
  rw [w_alloc_none, outP_val]
  have x1 : Ext [] G0 (G0.new (.cells 31 [.slice none 0 0 true])) := (Ext.refl _ _).new _
  have w0 : Wx G0 (G0.new (.cells 31 [.slice none 0 0 true])) G0.next [] := ⟨x1, Nat.le_refl _, by rw [next_new]; omega, G0.next + 1, _, get_new_same _ _, os_nil _ _ _, by omega, by omega⟩
  generalize G0.new (.cells 31 [.slice none 0 0 true]) = G1 at *
  rw [outP_enter]
  refine put_wp w0 (by simp) (cV x0) hV (by omega) _ fun G2 w2 => ?_
  rw [List.nil_append] at w2
  have leV := encs_le hV
  have le0 := encZ_le (n := (V.length : Int)) ⟨by omega, by omega⟩
  have leT : (encV V).length ≤ 200 := by unfold encV; rw [List.length_append]; omega
  rw [outP_enter]
  refine wBytes_wp w2 (by omega) _ fun G3 s3 B3 x3 hB3 o3 => ?_
  have y3 := x0.trans (w2.ext.trans x3)
  rw [conv_text o3.is, outP_val, outP_enter]
  refine rPut_wp (cV y3) hV (by omega) _ fun G4 s4 B4 x4 hB4 o4 => ?_
  rw [conv_text (Sl.mono o3.is x4 (by simp) : Is .u8 G4 B3 s3 (encV V))]
  rw [reC_val, show AV.beq (.str (txt (encV V))) (.str (txt (encV V))) = true by simp [AV.beq, strEq_eq], ckP_true, conv_text o4.is, outP_val, str_neS]
  repeat (first | rw [outP_val] | rw [guardP_true] | rw [guardP_false] | rw [condP_true] | rw [condP_false] | rw [boolIs_bool] | rw [boolIs_undef] | rw [beq_tt] | rw [beq_ff] | rw [Bool.not_true] | rw [Bool.not_false] | rw [outP_skip] | rw [w_pick_b] | rw [if_pos rfl] | rw [if_neg Bool.false_ne_true] | rw [w_fieldAddr_ptr] | rw [w_nil_ptr] | rw [Nat.zero_add] | rw [w_load_c] | rw [w_load_n] | rw [vO_some] | rw [w_store_c] | rw [w_not] | rw [w_lss] | rw [w_leq] | rw [w_gtr] | rw [w_geq] | rw [w_eql] | rw [w_neq] | rw [w_cint] | rw [w_min2_int] | rw [w_max2_int] | rw [w_add_in (by omega) (by omega)] | rw [w_sub_in (by omega) (by omega)] | rw [w_mul_in (by omega) (by omega)])
  have w4 : Wx G0 G4 G0.next (encV V) := (w2.mono x3).mono x4
  rw [outP_enter]
  refine wBytes_wp w4 (by omega) _ fun G5 s5 B5 x5 hB5 o5 => ?_
  have y5 := y3.trans (x4.trans x5)
  rw [outP_enter]
  refine newReader_wp o5.is (encV_byA hV (by omega)) (by omega) _ fun G6 rp r6 => ?_
  rw [outP_enter]
  refine get_wp r6 (by omega) _ fun G7 m7 B7 r7 hB7 i7 => ?_
  have y7 := y5.trans r7.ext
  rw [(cV y7).len vec_sl]
  have part2 : ∀ {G : AH}, Ext [] H G → True := fun _ => trivial
  by_cases c8 : 8 < V.length
  · have g8 := getV_long (V := V) ⟨c8, by omega⟩ []
    rw [List.append_nil] at g8
    rw [outP_val, w_gtr, outP_val, decide_eq_true (by omega), condP_true, i7.len vec_sl, outP_val, g8, w_eql, outP_val]
    exact hK _ y7
  · have g8 := getV_enc hV (by omega) []
    rw [List.append_nil] at g8
    rw [g8] at r7 i7
    rw [outP_val, w_gtr, outP_val, decide_eq_false (by omega), condP_false, outP_enter]
    refine vecEq_wp (cV y7) i7 (by omega) _ ?_
    rw [decide_eq_true (show V = (V, ([], false)).1 from rfl)]
    repeat (first | rw [outP_val] | rw [guardP_true] | rw [guardP_false] | rw [condP_true] | rw [condP_false] | rw [boolIs_bool] | rw [boolIs_undef] | rw [beq_tt] | rw [beq_ff] | rw [Bool.not_true] | rw [Bool.not_false] | rw [outP_skip] | rw [w_pick_b] | rw [if_pos rfl] | rw [if_neg Bool.false_ne_true] | rw [w_fieldAddr_ptr] | rw [w_nil_ptr] | rw [Nat.zero_add] | rw [w_load_c] | rw [w_load_n] | rw [vO_some] | rw [w_store_c] | rw [w_not] | rw [w_lss] | rw [w_leq] | rw [w_gtr] | rw [w_geq] | rw [w_eql] | rw [w_neq] | rw [w_cint] | rw [w_min2_int] | rw [w_max2_int] | rw [w_add_in (by omega) (by omega)] | rw [w_sub_in (by omega) (by omega)] | rw [w_mul_in (by omega) (by omega)])
    rw [outP_enter]
    refine end_wp r7 _ ?_
    rw [if_pos ⟨rfl, rfl⟩]
    repeat (first | rw [outP_val] | rw [guardP_true] | rw [guardP_false] | rw [condP_true] | rw [condP_false] | rw [boolIs_bool] | rw [boolIs_undef] | rw [beq_tt] | rw [beq_ff] | rw [Bool.not_true] | rw [Bool.not_false] | rw [outP_skip] | rw [w_pick_b] | rw [if_pos rfl] | rw [if_neg Bool.false_ne_true] | rw [w_fieldAddr_ptr] | rw [w_nil_ptr] | rw [Nat.zero_add] | rw [w_load_c] | rw [w_load_n] | rw [vO_some] | rw [w_store_c] | rw [w_not] | rw [w_lss] | rw [w_leq] | rw [w_gtr] | rw [w_geq] | rw [w_eql] | rw [w_neq] | rw [w_cint] | rw [w_min2_int] | rw [w_max2_int] | rw [w_add_in (by omega) (by omega)] | rw [w_sub_in (by omega) (by omega)] | rw [w_mul_in (by omega) (by omega)])
    rw [show decide ((0 : Int) = 0) = true from rfl]
    repeat (first | rw [outP_val] | rw [guardP_true] | rw [guardP_false] | rw [condP_true] | rw [condP_false] | rw [boolIs_bool] | rw [boolIs_undef] | rw [beq_tt] | rw [beq_ff] | rw [Bool.not_true] | rw [Bool.not_false] | rw [outP_skip] | rw [w_pick_b] | rw [if_pos rfl] | rw [if_neg Bool.false_ne_true] | rw [w_fieldAddr_ptr] | rw [w_nil_ptr] | rw [Nat.zero_add] | rw [w_load_c] | rw [w_load_n] | rw [vO_some] | rw [w_store_c] | rw [w_not] | rw [w_lss] | rw [w_leq] | rw [w_gtr] | rw [w_geq] | rw [w_eql] | rw [w_neq] | rw [w_cint] | rw [w_min2_int] | rw [w_max2_int] | rw [w_add_in (by omega) (by omega)] | rw [w_sub_in (by omega) (by omega)] | rw [w_mul_in (by omega) (by omega)])
    rw [outP_enter]
    refine newReader_wp (Sl.mono b2 y7 (by simp)) hB (by omega) _ fun G8 rq r8 => ?_
    rw [outP_enter]
    refine get_wp r8 (by omega) _ fun G9 m9 B9 r9 hB9 i9 => ?_
    have y9 := y7.trans r9.ext
    rw [outP_enter]
    refine err_wp r9 _ ?_
    by_cases em : (getV B).1 = []
    · rw [em] at i9
      have lm := i9.len vec_sl
      cases bd : (getV B).2.2 with
      | true =>
        rw [if_pos rfl, w_eql, show decide ((1 : Int) = 0) = false from rfl]
        repeat (first | rw [outP_val] | rw [guardP_true] | rw [guardP_false] | rw [condP_true] | rw [lm] | rw [condP_false] | rw [boolIs_bool] | rw [boolIs_undef] | rw [beq_tt] | rw [beq_ff] | rw [Bool.not_true] | rw [Bool.not_false] | rw [outP_skip] | rw [w_pick_b] | rw [if_pos rfl] | rw [if_neg Bool.false_ne_true] | rw [w_fieldAddr_ptr] | rw [w_nil_ptr] | rw [Nat.zero_add] | rw [w_load_c] | rw [w_load_n] | rw [vO_some] | rw [w_store_c] | rw [w_not] | rw [w_lss] | rw [w_leq] | rw [w_gtr] | rw [w_geq] | rw [w_eql] | rw [w_neq] | rw [w_cint] | rw [w_min2_int] | rw [w_max2_int] | rw [w_add_in (by omega) (by omega)] | rw [w_sub_in (by omega) (by omega)] | rw [w_mul_in (by omega) (by omega)] | rw [outP_enter])
        exact hK _ y9
      | false =>
        rw [if_neg (by simp), w_eql, show decide ((0 : Int) = 0) = true from rfl]
        repeat (first | rw [outP_val] | rw [guardP_true] | rw [guardP_false] | rw [condP_true] | rw [lm] | rw [condP_false] | rw [boolIs_bool] | rw [boolIs_undef] | rw [beq_tt] | rw [beq_ff] | rw [Bool.not_true] | rw [Bool.not_false] | rw [outP_skip] | rw [w_pick_b] | rw [if_pos rfl] | rw [if_neg Bool.false_ne_true] | rw [w_fieldAddr_ptr] | rw [w_nil_ptr] | rw [Nat.zero_add] | rw [w_load_c] | rw [w_load_n] | rw [vO_some] | rw [w_store_c] | rw [w_not] | rw [w_lss] | rw [w_leq] | rw [w_gtr] | rw [w_geq] | rw [w_eql] | rw [w_neq] | rw [w_cint] | rw [w_min2_int] | rw [w_max2_int] | rw [w_add_in (by omega) (by omega)] | rw [w_sub_in (by omega) (by omega)] | rw [w_mul_in (by omega) (by omega)] | rw [outP_enter])
        exact hK _ y9
    · obtain ⟨bd, l8, i32, eB⟩ := getV_any hB em
      have lm := fun G x => (Sl.mono i9 (x : Ext [] G9 G) (by simp) : Sl G 1 B9 m9 (nums .i32 (getV B).1))
      have lp : 0 < (getV B).1.length := List.length_pos_iff.2 em
      generalize (getV B).1 = M at *
      have lE : (encV M).length ≤ B.length := by
        have := congrArg List.length eB
        rw [List.length_append] at this; omega
      have tk : B.take (encV M).length = encV M := by rw [eB, List.take_append_of_le_length (Nat.le_refl _), List.take_of_length_le (Nat.le_refl _)]
      rw [bd, if_neg (by simp), w_eql, show decide ((0 : Int) = 0) = true from rfl]
      repeat (first | rw [outP_val] | rw [guardP_true] | rw [guardP_false] | rw [condP_true] | rw [i9.len vec_sl] | rw [condP_false] | rw [boolIs_bool] | rw [boolIs_undef] | rw [beq_tt] | rw [beq_ff] | rw [Bool.not_true] | rw [Bool.not_false] | rw [outP_skip] | rw [w_pick_b] | rw [if_pos rfl] | rw [if_neg Bool.false_ne_true] | rw [w_fieldAddr_ptr] | rw [w_nil_ptr] | rw [Nat.zero_add] | rw [w_load_c] | rw [w_load_n] | rw [vO_some] | rw [w_store_c] | rw [w_not] | rw [w_lss] | rw [w_leq] | rw [w_gtr] | rw [w_geq] | rw [w_eql] | rw [w_neq] | rw [w_cint] | rw [w_min2_int] | rw [w_max2_int] | rw [w_add_in (by omega) (by omega)] | rw [w_sub_in (by omega) (by omega)] | rw [w_mul_in (by omega) (by omega)])
      rw [decide_eq_true (by omega)]
      repeat (first | rw [outP_val] | rw [guardP_true] | rw [guardP_false] | rw [condP_true] | rw [condP_false] | rw [boolIs_bool] | rw [boolIs_undef] | rw [beq_tt] | rw [beq_ff] | rw [Bool.not_true] | rw [Bool.not_false] | rw [outP_skip] | rw [w_pick_b] | rw [if_pos rfl] | rw [if_neg Bool.false_ne_true] | rw [w_fieldAddr_ptr] | rw [w_nil_ptr] | rw [Nat.zero_add] | rw [w_load_c] | rw [w_load_n] | rw [vO_some] | rw [w_store_c] | rw [w_not] | rw [w_lss] | rw [w_leq] | rw [w_gtr] | rw [w_geq] | rw [w_eql] | rw [w_neq] | rw [w_cint] | rw [w_min2_int] | rw [w_max2_int] | rw [w_add_in (by omega) (by omega)] | rw [w_sub_in (by omega) (by omega)] | rw [w_mul_in (by omega) (by omega)])
      rw [outP_enter]
      refine rPut_wp i9 i32 (by omega) _ fun G10 s10 B10 x10 hB10 o10 => ?_
      have y10 := y9.trans x10
      have bT := Sl.mono b2 y10 (by simp)
      obtain ⟨bk, k1, k2⟩ := Is.cut bT (encV M).length lE
      rw [tk] at k2
      have lI := Is.len (lm _ x10) vec_sl
      have lH := o10.is.len u8_sl
      have lB2 := Is.len bT u8_sl
      have tI := conv_text o10.is
      have tK := conv_text k2
      repeat (first | rw [outP_val] | rw [guardP_true] | rw [guardP_false] | rw [condP_true] | rw [lI] | rw [condP_false] | rw [boolIs_bool] | rw [boolIs_undef] | rw [beq_tt] | rw [beq_ff] | rw [Bool.not_true] | rw [Bool.not_false] | rw [outP_skip] | rw [w_pick_b] | rw [if_pos rfl] | rw [if_neg Bool.false_ne_true] | rw [w_fieldAddr_ptr] | rw [w_nil_ptr] | rw [Nat.zero_add] | rw [w_load_c] | rw [w_load_n] | rw [vO_some] | rw [w_store_c] | rw [w_not] | rw [w_lss] | rw [w_leq] | rw [w_gtr] | rw [w_geq] | rw [w_neq] | rw [w_cint] | rw [w_min2_int] | rw [w_max2_int] | rw [w_add_in (by omega) (by omega)] | rw [w_sub_in (by omega) (by omega)] | rw [w_mul_in (by omega) (by omega)] | rw [outP_enter])
      rw [decide_eq_true (show ((M.length : Int)) ≤ 8 by omega)]
      repeat (first | rw [outP_val] | rw [guardP_true] | rw [guardP_false] | rw [condP_true] | rw [lH] | rw [lB2] | rw [condP_false] | rw [boolIs_bool] | rw [boolIs_undef] | rw [beq_tt] | rw [beq_ff] | rw [Bool.not_true] | rw [Bool.not_false] | rw [outP_skip] | rw [w_pick_b] | rw [if_pos rfl] | rw [if_neg Bool.false_ne_true] | rw [w_fieldAddr_ptr] | rw [w_nil_ptr] | rw [Nat.zero_add] | rw [w_load_c] | rw [w_load_n] | rw [vO_some] | rw [w_store_c] | rw [w_not] | rw [w_lss] | rw [w_leq] | rw [w_gtr] | rw [w_geq] | rw [w_neq] | rw [w_cint] | rw [w_min2_int] | rw [w_max2_int] | rw [w_add_in (by omega) (by omega)] | rw [w_sub_in (by omega) (by omega)] | rw [w_mul_in (by omega) (by omega)] | rw [outP_enter])
      rw [decide_eq_true (show ((encV M).length : Int) ≤ (B.length : Int) by omega)]
      repeat (first | rw [outP_val] | rw [guardP_true] | rw [guardP_false] | rw [condP_true] | rw [tI] | rw [lH] | rw [k1] | rw [tK] | rw [w_str_eq] | rw [condP_false] | rw [boolIs_bool] | rw [boolIs_undef] | rw [beq_tt] | rw [beq_ff] | rw [Bool.not_true] | rw [Bool.not_false] | rw [outP_skip] | rw [w_pick_b] | rw [if_pos rfl] | rw [if_neg Bool.false_ne_true] | rw [w_fieldAddr_ptr] | rw [w_nil_ptr] | rw [Nat.zero_add] | rw [w_load_c] | rw [w_load_n] | rw [vO_some] | rw [w_store_c] | rw [w_not] | rw [w_lss] | rw [w_leq] | rw [w_gtr] | rw [w_geq] | rw [w_neq] | rw [w_cint] | rw [w_min2_int] | rw [w_max2_int] | rw [w_add_in (by omega) (by omega)] | rw [w_sub_in (by omega) (by omega)] | rw [w_mul_in (by omega) (by omega)] | rw [outP_enter])
      rw [decide_eq_true rfl]
      repeat (first | rw [outP_val] | rw [guardP_true] | rw [guardP_false] | rw [condP_true] | rw [condP_false] | rw [boolIs_bool] | rw [boolIs_undef] | rw [beq_tt] | rw [beq_ff] | rw [Bool.not_true] | rw [Bool.not_false] | rw [outP_skip] | rw [w_pick_b] | rw [if_pos rfl] | rw [if_neg Bool.false_ne_true] | rw [w_fieldAddr_ptr] | rw [w_nil_ptr] | rw [Nat.zero_add] | rw [w_load_c] | rw [w_load_n] | rw [vO_some] | rw [w_store_c] | rw [w_not] | rw [w_lss] | rw [w_leq] | rw [w_gtr] | rw [w_geq] | rw [w_eql] | rw [w_neq] | rw [w_cint] | rw [w_min2_int] | rw [w_max2_int] | rw [w_add_in (by omega) (by omega)] | rw [w_sub_in (by omega) (by omega)] | rw [w_mul_in (by omega) (by omega)] | rw [outP_enter])
      exact hK _ y10
end
end Go.Ab
