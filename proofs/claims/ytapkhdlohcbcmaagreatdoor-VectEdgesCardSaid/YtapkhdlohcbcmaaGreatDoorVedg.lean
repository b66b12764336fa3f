/- fieldfarelaw7.VectEdges: what it does, at any numbers. -/
import Derived.Test.YtapkhdlohcbcmaaGreatDoorVecsB
import Derived.Test.YtapkhdlohcbcmaaGreatDoorN3
namespace Go.Ab
noncomputable section
open Go.Proofs
set_option maxRecDepth 10000
variable {H H' : AH}

theorem bs_num2 {e : TypeId} {k : IntKind} (he : elT PP e = some (1, [.int k 0])) (x y : Int) : w_buildSlice PP e 2 H [(0, .int k x), (1, .int k y)] none = some (.val (.slice (some (H.next, 0)) 2 2 true) (H.new (.cells e [.int k x, .int k y]))) := by
  have h1 : Nat.ble (2 * 1) 16777216 = true := rfl
  have h2 : fillA (fun i => some (i * 1, 1)) [(0, AV.int k x), (1, AV.int k y)] (reps 2 [AV.int k 0]) = some [.int k x, .int k y] := rfl
  have h3 : allB (fun x : Nat × AV => allB AV.one x.2.parts) [(0, .int k x), (1, .int k y)] = true := rfl
  simp only [w_buildSlice, oBuildSlice, he, h1, h2, h3, br_true, val_mk, ob_some, newSlice, newTo_none_eq]
theorem os_two (e : TypeId) (k : IntKind) (x y : Int) : Os e k (H.new (.cells e [.int k x, .int k y])) H.next (.slice (some (H.next, 0)) 2 2 true) [x, y] :=
  ⟨.inr ⟨0, 2, true, _, rfl, get_new_same _ _, Nat.le_refl _, Nat.le_refl _, fun q => (by cases q), rfl, by rw [next_new]; omega⟩, by simp, by simp [AV.known], by simp [AV.one]⟩
theorem bool_neq (a b : Bool) : w_eq PP .neq 4 false false H (.bool a) (.bool b) = some (.val (.bool (a != b)) H) := by cases a <;> cases b <;> kernel_rfl
theorem mayB_zeros (d : Nat) (h1 : 1 ≤ d) (h8 : d ≤ 8) : mayB (List.replicate d 0) d = true := (mayB_iff _ _).2 ⟨by omega, by omega, by simp, fun x hx => by have := (List.mem_replicate.1 hx).2; omega⟩
theorem mayB_len {V : List Int} {n : Int} (h : (V.length : Int) ≠ n) : mayB V n = false := by
  cases q : mayB V n with
  | false => rfl
  | true => exact absurd ((mayB_iff _ _).1 q).2.2.1 h
theorem mayB_set (d : Nat) (h1 : 1 ≤ d) (h8 : d ≤ 8) {at_ : Nat} (ha : at_ < d) (z : Int) : mayB ((List.replicate d 0).set at_ z) d = decide (-1048576 ≤ z ∧ z ≤ 1048576) := by
  rw [Bool.eq_iff_iff, mayB_iff, decide_eq_true_iff]
  constructor
  · rintro ⟨_, _, _, h⟩
    exact h z (List.mem_iff_getElem?.2 ⟨at_, by rw [List.getElem?_set, if_pos rfl, if_pos (by simpa using ha)]⟩)
  · intro h
    refine ⟨by omega, by omega, by simp, fun x hx => ?_⟩
    rcases List.mem_or_eq_of_mem_set hx with q | q
    · have := (List.mem_replicate.1 q).2; omega
    · omega
theorem vectEdges_wp (n a off : Int) (hl : Laid H) (K : AV → AH → Prop) (hK : ∀ H', Ext [] H H' → K (.bool true) H') : CC.call 3 [.int .i64 n, .int .i64 a, .int .i32 off] H K := by
  refine m_fieldfarelaw7_VectEdges_ok _ _ _ _ _ ?_
  unfold m_fieldfarelaw7_VectEdges m_fieldfarelaw7_VectEdgest
  rw [outP_enter]
  refine begun_wp hl _ ?_
  unfold m_fieldfarelaw7_VectEdgestt
  rw [w_not, outP_val, Bool.not_true, condP_false]
  unfold m_fieldfarelaw7_VectEdgesttt
  rw [outP_enter]
  refine dim_wp n _ fun d hd1 hd8 => ?_
  unfold m_fieldfarelaw7_VectEdgestttt
  obtain ⟨q1, q2, q3, q4⟩ := modn a (m := (d : Int)) (by omega)
  rw [w_rem _ _ _ (show (d : Int) ≠ 0 by omega), outP_val, w_add_in (by omega) (by omega), outP_val, w_rem _ _ _ (show (d : Int) ≠ 0 by omega), outP_val]
  obtain ⟨at_, hat⟩ : ∃ k : Nat, (a.tmod d + d).tmod d = k := ⟨_, (Int.toNat_of_nonneg q3).symm⟩
  rw [hat] at q3 q4 ⊢
  unfold m_fieldfarelaw7_VectEdgesttttt
  have r1 := Int.lt_tmod_of_pos off (show (0 : Int) < 3 by decide)
  have r2 := Int.tmod_lt_of_pos off (show (0 : Int) < 3 by decide)
  rw [w_rem _ _ _ (by decide), outP_val]
  generalize off.tmod 3 = o at *
  unfold m_fieldfarelaw7_VectEdgestttttth
  rw [bs_num2 i32_el, outP_val]
  have x1 : Ext [] H (H.new (.cells 21 [.int .i32 (-1), .int .i32 1])) := (Ext.refl _ _).new _
  have os := os_two (H := H) 21 .i32 (-1) 1
  generalize H.new (.cells 21 [.int .i32 (-1), .int .i32 1]) = G at *
  generalize (AV.slice (some (H.next, 0)) 2 2 true) = S at *
  have ls := os.is.len i32_sl
  rw [ls, outP_val]
  unfold m_fieldfarelaw7_VectEdgestttttthtb
  refine loopP_rule (I := fun t G' => ∃ j : Nat, t = (.int .i64 d, .int .i64 at_, .int .i32 o, S, .int .i64 2, .int .i64 j) ∧ j ≤ 2 ∧ Ext [] G G') (μ := fun t _ => match t.2.2.2.2.2 with | .int _ z => 2 - z.toNat | _ => 0) ?_ ⟨0, rfl, by omega, Ext.refl _ _⟩
  rintro t G1 ⟨j, rfl, hj, x2⟩ rec hrec
  unfold m_fieldfarelaw7_VectEdgestttttthtbl
  rw [w_lss, outP_val]
  obtain ⟨G2, e1, y1, e2, o1⟩ := make_nums (H := G1) i32_el i32_by (by omega) (n := d) (by omega)
  by_cases cj : j < 2
  · have os1 : Is .i32 G1 H.next S [-1, 1] := Sl.mono os.is x2 (by simp)
    obtain ⟨p1, a1, _, a3⟩ := os1.at (j := j) (by simpa using cj)
    have hs : [(-1 : Int), 1][j] = -1 ∨ [(-1 : Int), 1][j] = 1 := by
      have : j = 0 ∨ j = 1 := by omega
      rcases this with q | q <;> subst q <;> simp
    generalize [(-1 : Int), 1][j] = sg at *
    have i1 : IntKind.i32.wrap (sg * 1048576) = sg * 1048576 := wrap32_in (by omega) (by omega)
    have i2 : IntKind.i32.wrap (sg * 1048576 + o) = sg * 1048576 + o := wrap32_in (by omega) (by omega)
    have i3 : IntKind.i32.wrap (sg * o) = sg * o := wrap32_in (by rcases hs with q | q <;> subst q <;> omega) (by rcases hs with q | q <;> subst q <;> omega)
    rw [decide_eq_true (by omega), condP_true, a1, outP_val, w_load_c, a3, vO_some, outP_val, e1, outP_val, w_mul, outP_val, i1, w_add, outP_val, i2]
    generalize (AV.slice (some (G1.next, 0)) d d true) = c at *
    obtain ⟨p2, b1, b2, b3, b4⟩ := o1.at (j := at_) (by simp; omega)
    obtain ⟨G3, c1, c2, c3, c4⟩ := b4 (sg * 1048576 + o)
    rw [b1, outP_val, w_store_c, c1, outP_skip, outP_enter]
    refine may_wp c4.is d _ ?_
    rw [mayB_set d hd1 hd8 (by omega), w_mul, outP_val, i3, w_leq, outP_val]
    have e3 : decide (-1048576 ≤ sg * 1048576 + o ∧ sg * 1048576 + o ≤ 1048576) = decide (sg * o ≤ 0) := by
      rw [Bool.eq_iff_iff, decide_eq_true_iff, decide_eq_true_iff]
      rcases hs with q | q <;> subst q <;> omega
    rw [e3, bool_neq, outP_val, show (decide (sg * o ≤ 0) != decide (sg * o ≤ 0)) = false by simp, condP_false, w_add_in (by omega) (by omega), outP_val]
    refine hrec _ _ ⟨j + 1, by rfl, by omega, x2.trans ((y1.mono (m' := [G1.next]) (by simp)).trans c2 |>.mono fun b hb hlt => by simp at hb; omega)⟩ ?_
    show 2 - ((j : Int) + 1).toNat < 2 - (j : Int).toNat
    omega
  · rw [decide_eq_false (by omega), condP_false, e1, outP_val]
    generalize (AV.slice (some (G1.next, 0)) d d true) = c at *
    rw [outP_enter]
    refine may_wp o1.is d _ ?_
    obtain ⟨c', k1, k2⟩ := o1.is.cut (d - 1) (by simp)
    rw [show ((d - 1 : Nat) : Int) = (d : Int) - 1 by omega] at k1
    rw [mayB_zeros d hd1 hd8]
    repeat (first | rw [outP_val] | rw [guardP_true] | rw [guardP_false] | rw [condP_true] | rw [condP_false] | rw [boolIs_bool] | rw [beq_tt] | rw [beq_ff] | rw [Bool.not_true] | rw [Bool.not_false] | rw [outP_skip] | rw [w_pick_b] | rw [if_pos rfl] | rw [if_neg Bool.false_ne_true] | rw [w_fieldAddr_ptr] | rw [w_nil_ptr] | rw [Nat.zero_add] | rw [w_load_c] | rw [w_load_n] | rw [vO_some] | rw [w_store_c] | rw [w_not] | rw [w_lss] | rw [w_leq] | rw [w_gtr] | rw [w_geq] | rw [w_eql] | rw [w_neq] | rw [w_cint] | rw [w_min2_int] | rw [w_max2_int] | rw [w_add_in (by omega) (by omega)] | rw [w_sub_in (by omega) (by omega)] | rw [w_mul_in (by omega) (by omega)])
    rw [outP_enter]
    refine may_wp o1.is _ _ ?_
    rw [mayB_len (by simp; omega)]
    repeat (first | rw [outP_val] | rw [guardP_true] | rw [guardP_false] | rw [condP_true] | rw [condP_false] | rw [boolIs_bool] | rw [beq_tt] | rw [beq_ff] | rw [Bool.not_true] | rw [Bool.not_false] | rw [outP_skip] | rw [w_pick_b] | rw [if_pos rfl] | rw [if_neg Bool.false_ne_true] | rw [w_fieldAddr_ptr] | rw [w_nil_ptr] | rw [Nat.zero_add] | rw [w_load_c] | rw [w_load_n] | rw [vO_some] | rw [w_store_c] | rw [w_not] | rw [w_lss] | rw [w_leq] | rw [w_gtr] | rw [w_geq] | rw [w_eql] | rw [w_neq] | rw [w_cint] | rw [w_min2_int] | rw [w_max2_int] | rw [w_add_in (by omega) (by omega)] | rw [w_sub_in (by omega) (by omega)] | rw [w_mul_in (by omega) (by omega)])
    rw [outP_enter]
    refine may_wp o1.is _ _ ?_
    rw [mayB_len (by simp; omega)]
    repeat (first | rw [outP_val] | rw [guardP_true] | rw [guardP_false] | rw [condP_true] | rw [k1] | rw [condP_false] | rw [boolIs_bool] | rw [beq_tt] | rw [beq_ff] | rw [Bool.not_true] | rw [Bool.not_false] | rw [outP_skip] | rw [w_pick_b] | rw [if_pos rfl] | rw [if_neg Bool.false_ne_true] | rw [w_fieldAddr_ptr] | rw [w_nil_ptr] | rw [Nat.zero_add] | rw [w_load_c] | rw [w_load_n] | rw [vO_some] | rw [w_store_c] | rw [w_not] | rw [w_lss] | rw [w_leq] | rw [w_gtr] | rw [w_geq] | rw [w_eql] | rw [w_neq] | rw [w_cint] | rw [w_min2_int] | rw [w_max2_int] | rw [w_add_in (by omega) (by omega)] | rw [w_sub_in (by omega) (by omega)] | rw [w_mul_in (by omega) (by omega)])
    rw [outP_enter]
    refine may_wp k2 _ _ ?_
    rw [mayB_len (by simp; omega)]
    repeat (first | rw [outP_val] | rw [guardP_true] | rw [guardP_false] | rw [condP_true] | rw [condP_false] | rw [boolIs_bool] | rw [beq_tt] | rw [beq_ff] | rw [Bool.not_true] | rw [Bool.not_false] | rw [outP_skip] | rw [w_pick_b] | rw [if_pos rfl] | rw [if_neg Bool.false_ne_true] | rw [w_fieldAddr_ptr] | rw [w_nil_ptr] | rw [Nat.zero_add] | rw [w_load_c] | rw [w_load_n] | rw [vO_some] | rw [w_store_c] | rw [w_not] | rw [w_lss] | rw [w_leq] | rw [w_gtr] | rw [w_geq] | rw [w_eql] | rw [w_neq] | rw [w_cint] | rw [w_min2_int] | rw [w_max2_int] | rw [w_add_in (by omega) (by omega)] | rw [w_sub_in (by omega) (by omega)] | rw [w_mul_in (by omega) (by omega)] | rw [outP_enter])
    exact hK _ (x1.trans (x2.trans y1))
end
end Go.Ab
