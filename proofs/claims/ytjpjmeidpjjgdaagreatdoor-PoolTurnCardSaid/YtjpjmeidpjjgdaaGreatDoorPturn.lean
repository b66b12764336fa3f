/- fieldfarelaw7.PoolTurn: what it does, at any input. -/
import Derived.Test.YtjpjmeidpjjgdaaGreatDoorPoolX
import Derived.Test.YtjpjmeidpjjgdaaGreatDoorP6
namespace Go.Ab
noncomputable section
open Go.Proofs
set_option maxRecDepth 10000
variable {H H' : AH}

theorem bool_neqT (b : Bool) : w_eq PP .neq 4 false false H (.bool b) (.bool b) = some (.val (.bool false) H) := by cases b <;> kernel_rfl
set_option maxHeartbeats 1000000 in
theorem poolTurn_wp {b : Nat} {s : AV} {L : List (Int × Int)} (n owner k : Int) (h : Hs H b s L) (hl : Laid H) (K : AV → AH → Prop) (hK : ∀ H', Ext [] H H' → K (.bool true) H') : CC.call 6 [.int .i64 n, s, .int .i64 owner, .int .i64 k] H K := by
  refine m_fieldfarelaw7_PoolTurn_ok _ _ _ _ _ _ ?_
  unfold m_fieldfarelaw7_PoolTurn m_fieldfarelaw7_PoolTurnt
  rw [outP_enter]
  refine begun_wp hl _ ?_
  unfold m_fieldfarelaw7_PoolTurntt
  rw [w_not, outP_val, Bool.not_true, condP_false]
  unfold m_fieldfarelaw7_PoolTurnttt
  obtain ⟨a1, a2, a3, a4⟩ := modn n (m := 60) (by decide)
  rw [w_rem _ _ _ (by decide), outP_val, w_add_in (by omega) (by omega), outP_val, w_rem _ _ _ (by decide), outP_val]
  generalize (n.tmod 60 + 60).tmod 60 = N at *
  unfold m_fieldfarelaw7_PoolTurntttt
  rw [outP_enter]
  refine new_plx N _ fun G1 p h1 => ?_
  obtain ⟨M, hM, hM1⟩ : ∃ M : Nat, (min (max N 0) 1000).toNat = M ∧ M ≤ 60 := ⟨_, rfl, by omega⟩
  rw [hM] at h1
  unfold m_fieldfarelaw7_PoolTurnttttth m_fieldfarelaw7_PoolTurnttttthtb
  refine loopP_rule (I := fun t G => ∃ (j : Nat) (S : PS), t = (s, .int .i64 owner, .int .i64 k, .ptr (some (p, 0)), .int .i64 j) ∧ j ≤ L.length ∧ Plx H G p S ∧ PInv M S ∧ ∀ o, 10 ≤ o → S.of o = []) (μ := fun t _ => match t.2.2.2.2 with | .int _ z => L.length - z.toNat | _ => 0) ?_ ⟨0, _, rfl, Nat.zero_le _, h1, start_inv M, fun o _ => rfl⟩
  rintro t G ⟨j, S, rfl, hj, hp, hi, ho⟩ rec hrec
  unfold m_fieldfarelaw7_PoolTurnttttthtbl
  have hsG : Hs G b s L := Sl.mono h hp.ext (by simp)
  rw [ops_len hsG, outP_val, w_lss, outP_val]
  have tail : outP CC G (w_int .rem G (.int .i64 owner) (.int .i64 5)) fun v18 H18 => True := by rw [w_rem _ _ _ (by decide), outP_val]; trivial
  clear tail
  by_cases go : j < L.length ∧ j < 20
  · have d1 : decide ((j : Int) < (L.length : Int)) = true := decide_eq_true (by omega)
    have d2 : decide ((j : Int) < 20) = true := decide_eq_true (by omega)
    obtain ⟨o, c1, c2, c3, c4⟩ := hsG.at1 go.1
    obtain ⟨e1, e2, e3, e4⟩ := modn L[j].2 (m := 20) (by decide)
    have f1 := Int.lt_tmod_of_pos L[j].1 (show (0 : Int) < 4 by decide)
    have f2 := Int.tmod_lt_of_pos L[j].1 (show (0 : Int) < 4 by decide)
    have q4 : (4 : Int) ≠ 0 := by decide
    have q20 : (20 : Int) ≠ 0 := by decide
    rw [boolIs_bool, beq_tt, d1, guardP_true, outP_val, guardP_true, w_lss, outP_val, d2, w_pick_b, outP_val, if_pos rfl, condP_true, c1, outP_val, w_fieldAddr_ptr, outP_val, Nat.add_zero, w_load_c, c3, vO_some, outP_val, w_rem _ _ _ q4, outP_val, c1, outP_val, w_fieldAddr_ptr, outP_val, w_load_c, c4, vO_some, outP_val, w_rem _ _ _ q20, outP_val, w_add_in (by omega) (by omega), outP_val, w_rem _ _ _ q20, outP_val, outP_enter]
    refine size_plx hp hi (by omega) (by omega) _ fun G2 h2 => ?_
    rw [w_add_in (by omega) (by omega), outP_val]
    refine hrec _ _ ⟨j + 1, _, by rfl, by omega, h2, size_inv hi _ _, fun o' h' => ?_⟩ ?_
    · rw [size_other (by omega)]; exact ho o' h'
    · show L.length - ((j : Int) + 1).toNat < L.length - (j : Int).toNat
      omega
  · obtain ⟨e1, e2, e3, e4⟩ := modn owner (m := 5) (by decide)
    obtain ⟨f1, f2, f3, f4⟩ := modn k (m := 80) (by decide)
    obtain ⟨t1, t2, t3, t4, t5, t6, t7⟩ := turn_law hi (ho (10 + (owner.tmod 5 + 5).tmod 5) (by omega)) f3
    have i1 := size_inv hi (10 + (owner.tmod 5 + 5).tmod 5) ((k.tmod 80 + 80).tmod 80)
    have i2 := size_inv i1 (10 + (owner.tmod 5 + 5).tmod 5) 0
    have ho' := ho (10 + (owner.tmod 5 + 5).tmod 5) (by omega)
    have r5 : ∀ G : AH, w_int .rem G (.int .i64 owner) (.int .i64 5) = some (.val (.int .i64 (owner.tmod 5)) G) := fun G => w_rem _ _ _ (by decide)
    have r5' : ∀ G : AH, w_int .rem G (.int .i64 (owner.tmod 5 + 5)) (.int .i64 5) = some (.val (.int .i64 ((owner.tmod 5 + 5).tmod 5)) G) := fun G => w_rem _ _ _ (by decide)
    have r80 : ∀ G : AH, w_int .rem G (.int .i64 k) (.int .i64 80) = some (.val (.int .i64 (k.tmod 80)) G) := fun G => w_rem _ _ _ (by decide)
    have r80' : ∀ G : AH, w_int .rem G (.int .i64 (k.tmod 80 + 80)) (.int .i64 80) = some (.val (.int .i64 ((k.tmod 80 + 80).tmod 80)) G) := fun G => w_rem _ _ _ (by decide)
    have dl : ∀ z : Int, decide (z = z) = true := fun z => decide_eq_true rfl
    have lF := hi.lenF
    have lF1 := i1.lenF
    have lO1 := i1.lenO (10 + (owner.tmod 5 + 5).tmod 5)
    have st : decide ((j : Int) < (L.length : Int)) = false ∨ (decide ((j : Int) < (L.length : Int)) = true ∧ decide ((j : Int) < 20) = false) := by
      by_cases c : j < L.length
      · exact .inr ⟨decide_eq_true (by omega), decide_eq_false (by omega)⟩
      · exact .inl (decide_eq_false (by omega))
    have e0 : (sizeP S (10 + (owner.tmod 5 + 5).tmod 5) ((k.tmod 80 + 80).tmod 80)).2 = 0 ∨ (sizeP S (10 + (owner.tmod 5 + 5).tmod 5) ((k.tmod 80 + 80).tmod 80)).2 = 6 := by
      by_cases c : (sizeP S (10 + (owner.tmod 5 + 5).tmod 5) ((k.tmod 80 + 80).tmod 80)).2 = 0
      · exact .inl c
      · exact .inr (by rw [t2 c])
    have go2 : ∀ G : AH, Plx H G p (sizeP S (10 + (owner.tmod 5 + 5).tmod 5) ((k.tmod 80 + 80).tmod 80)).1 → True := fun _ _ => trivial
    rcases st with d1 | ⟨d1, d2⟩
    case' inl => repeat (first | rw [outP_val] | rw [guardP_true] | rw [guardP_false] | rw [condP_true] | rw [d1] | rw [r5] | rw [r5'] | rw [r80] | rw [r80'] | rw [condP_false] | rw [boolIs_bool] | rw [boolIs_undef] | rw [beq_tt] | rw [beq_ff] | rw [Bool.not_true] | rw [Bool.not_false] | rw [outP_skip] | rw [w_pick_b] | rw [if_pos rfl] | rw [if_neg Bool.false_ne_true] | rw [w_fieldAddr_ptr] | rw [w_nil_ptr] | rw [Nat.zero_add] | rw [w_load_c] | rw [w_load_n] | rw [vO_some] | rw [w_store_c] | rw [w_not] | rw [w_lss] | rw [w_leq] | rw [w_gtr] | rw [w_geq] | rw [w_eql] | rw [w_neq] | rw [w_cint] | rw [w_min2_int] | rw [w_max2_int] | rw [w_add_in (by omega) (by omega)] | rw [w_sub_in (by omega) (by omega)] | rw [w_mul_in (by omega) (by omega)])
    case' inr => repeat (first | rw [outP_val] | rw [guardP_true] | rw [guardP_false] | rw [condP_true] | rw [d1] | rw [d2] | rw [r5] | rw [r5'] | rw [r80] | rw [r80'] | rw [condP_false] | rw [boolIs_bool] | rw [boolIs_undef] | rw [beq_tt] | rw [beq_ff] | rw [Bool.not_true] | rw [Bool.not_false] | rw [outP_skip] | rw [w_pick_b] | rw [if_pos rfl] | rw [if_neg Bool.false_ne_true] | rw [w_fieldAddr_ptr] | rw [w_nil_ptr] | rw [Nat.zero_add] | rw [w_load_c] | rw [w_load_n] | rw [vO_some] | rw [w_store_c] | rw [w_not] | rw [w_lss] | rw [w_leq] | rw [w_gtr] | rw [w_geq] | rw [w_eql] | rw [w_neq] | rw [w_cint] | rw [w_min2_int] | rw [w_max2_int] | rw [w_add_in (by omega) (by omega)] | rw [w_sub_in (by omega) (by omega)] | rw [w_mul_in (by omega) (by omega)])
    all_goals
      rw [outP_enter]
      refine free_plx hp _ ?_
      rw [outP_enter]
      refine size_plx hp hi (by omega) (by omega) _ fun G2 h2 => ?_
      generalize 10 + (owner.tmod 5 + 5).tmod 5 = O at *
      generalize (k.tmod 80 + 80).tmod 80 = Q at *
      rcases e0 with e0 | e0
      · have q1 := t1.1 e0
        obtain ⟨q2, q3⟩ := t3 e0
        have d3 : decide (Q ≤ (S.free.length : Int)) = true := decide_eq_true q1
        rw [e0]
        repeat (first | rw [outP_val] | rw [guardP_true] | rw [guardP_false] | rw [condP_true] | rw [dl] | rw [d3] | rw [bool_neqT] | rw [condP_false] | rw [boolIs_bool] | rw [boolIs_undef] | rw [beq_tt] | rw [beq_ff] | rw [Bool.not_true] | rw [Bool.not_false] | rw [outP_skip] | rw [w_pick_b] | rw [if_pos rfl] | rw [if_neg Bool.false_ne_true] | rw [w_fieldAddr_ptr] | rw [w_nil_ptr] | rw [Nat.zero_add] | rw [w_load_c] | rw [w_load_n] | rw [vO_some] | rw [w_store_c] | rw [w_not] | rw [w_lss] | rw [w_leq] | rw [w_gtr] | rw [w_geq] | rw [w_eql] | rw [w_neq] | rw [w_cint] | rw [w_min2_int] | rw [w_max2_int] | rw [w_add_in (by omega) (by omega)] | rw [w_sub_in (by omega) (by omega)] | rw [w_mul_in (by omega) (by omega)])
        rw [outP_enter]
        refine free_plx h2 _ ?_
        rw [q2]
        repeat (first | rw [outP_val] | rw [guardP_true] | rw [guardP_false] | rw [condP_true] | rw [dl] | rw [condP_false] | rw [boolIs_bool] | rw [boolIs_undef] | rw [beq_tt] | rw [beq_ff] | rw [Bool.not_true] | rw [Bool.not_false] | rw [outP_skip] | rw [w_pick_b] | rw [if_pos rfl] | rw [if_neg Bool.false_ne_true] | rw [w_fieldAddr_ptr] | rw [w_nil_ptr] | rw [Nat.zero_add] | rw [w_load_c] | rw [w_load_n] | rw [vO_some] | rw [w_store_c] | rw [w_not] | rw [w_lss] | rw [w_leq] | rw [w_gtr] | rw [w_geq] | rw [w_eql] | rw [w_neq] | rw [w_cint] | rw [w_min2_int] | rw [w_max2_int] | rw [w_add_in (by omega) (by omega)] | rw [w_sub_in (by omega) (by omega)] | rw [w_mul_in (by omega) (by omega)])
        rw [outP_enter]
        refine of_plx h2 i1 (by omega) O _ fun G3 l3 B3 x3 h3 hB3 os3 => ?_
        have l3 := os3.is.len ints_sl
        rw [q3] at l3
        repeat (first | rw [outP_val] | rw [guardP_true] | rw [guardP_false] | rw [condP_true] | rw [l3] | rw [dl] | rw [condP_false] | rw [boolIs_bool] | rw [boolIs_undef] | rw [beq_tt] | rw [beq_ff] | rw [Bool.not_true] | rw [Bool.not_false] | rw [outP_skip] | rw [w_pick_b] | rw [if_pos rfl] | rw [if_neg Bool.false_ne_true] | rw [w_fieldAddr_ptr] | rw [w_nil_ptr] | rw [Nat.zero_add] | rw [w_load_c] | rw [w_load_n] | rw [vO_some] | rw [w_store_c] | rw [w_not] | rw [w_lss] | rw [w_leq] | rw [w_gtr] | rw [w_geq] | rw [w_eql] | rw [w_neq] | rw [w_cint] | rw [w_min2_int] | rw [w_max2_int] | rw [w_add_in (by omega) (by omega)] | rw [w_sub_in (by omega) (by omega)] | rw [w_mul_in (by omega) (by omega)])
        rw [outP_enter]
        refine size_plx h3 i1 (by omega) (by omega) _ fun G4 h4 => ?_
        rw [t4]
        repeat (first | rw [outP_val] | rw [guardP_true] | rw [guardP_false] | rw [condP_true] | rw [dl] | rw [condP_false] | rw [boolIs_bool] | rw [boolIs_undef] | rw [beq_tt] | rw [beq_ff] | rw [Bool.not_true] | rw [Bool.not_false] | rw [outP_skip] | rw [w_pick_b] | rw [if_pos rfl] | rw [if_neg Bool.false_ne_true] | rw [w_fieldAddr_ptr] | rw [w_nil_ptr] | rw [Nat.zero_add] | rw [w_load_c] | rw [w_load_n] | rw [vO_some] | rw [w_store_c] | rw [w_not] | rw [w_lss] | rw [w_leq] | rw [w_gtr] | rw [w_geq] | rw [w_eql] | rw [w_neq] | rw [w_cint] | rw [w_min2_int] | rw [w_max2_int] | rw [w_add_in (by omega) (by omega)] | rw [w_sub_in (by omega) (by omega)] | rw [w_mul_in (by omega) (by omega)])
        rw [outP_enter]
        refine free_plx h4 _ ?_
        rw [t5]
        repeat (first | rw [outP_val] | rw [guardP_true] | rw [guardP_false] | rw [condP_true] | rw [dl] | rw [condP_false] | rw [boolIs_bool] | rw [boolIs_undef] | rw [beq_tt] | rw [beq_ff] | rw [Bool.not_true] | rw [Bool.not_false] | rw [outP_skip] | rw [w_pick_b] | rw [if_pos rfl] | rw [if_neg Bool.false_ne_true] | rw [w_fieldAddr_ptr] | rw [w_nil_ptr] | rw [Nat.zero_add] | rw [w_load_c] | rw [w_load_n] | rw [vO_some] | rw [w_store_c] | rw [w_not] | rw [w_lss] | rw [w_leq] | rw [w_gtr] | rw [w_geq] | rw [w_eql] | rw [w_neq] | rw [w_cint] | rw [w_min2_int] | rw [w_max2_int] | rw [w_add_in (by omega) (by omega)] | rw [w_sub_in (by omega) (by omega)] | rw [w_mul_in (by omega) (by omega)])
        rw [outP_enter]
        refine of_plx h4 i2 (by omega) O _ fun G5 l5 B5 x5 h5 hB5 os5 => ?_
        have l5 := os5.is.len ints_sl
        rw [t6] at l5
        have l5' : ∀ G' : AH, w_len PP 33 G' _ = some (.val (.int .i64 0) G') := l5
        repeat (first | rw [outP_val] | rw [guardP_true] | rw [guardP_false] | rw [condP_true] | rw [l5'] | rw [dl] | rw [condP_false] | rw [boolIs_bool] | rw [boolIs_undef] | rw [beq_tt] | rw [beq_ff] | rw [Bool.not_true] | rw [Bool.not_false] | rw [outP_skip] | rw [w_pick_b] | rw [if_pos rfl] | rw [if_neg Bool.false_ne_true] | rw [w_fieldAddr_ptr] | rw [w_nil_ptr] | rw [Nat.zero_add] | rw [w_load_c] | rw [w_load_n] | rw [vO_some] | rw [w_store_c] | rw [w_not] | rw [w_lss] | rw [w_leq] | rw [w_gtr] | rw [w_geq] | rw [w_eql] | rw [w_neq] | rw [w_cint] | rw [w_min2_int] | rw [w_max2_int] | rw [w_add_in (by omega) (by omega)] | rw [w_sub_in (by omega) (by omega)] | rw [w_mul_in (by omega) (by omega)])
        rw [outP_enter]
        refine size_plx h5 i2 (by omega) (by omega) _ fun G6 h6 => ?_
        rw [t7]
        repeat (first | rw [outP_val] | rw [guardP_true] | rw [guardP_false] | rw [condP_true] | rw [dl] | rw [condP_false] | rw [boolIs_bool] | rw [boolIs_undef] | rw [beq_tt] | rw [beq_ff] | rw [Bool.not_true] | rw [Bool.not_false] | rw [outP_skip] | rw [w_pick_b] | rw [if_pos rfl] | rw [if_neg Bool.false_ne_true] | rw [w_fieldAddr_ptr] | rw [w_nil_ptr] | rw [Nat.zero_add] | rw [w_load_c] | rw [w_load_n] | rw [vO_some] | rw [w_store_c] | rw [w_not] | rw [w_lss] | rw [w_leq] | rw [w_gtr] | rw [w_geq] | rw [w_eql] | rw [w_neq] | rw [w_cint] | rw [w_min2_int] | rw [w_max2_int] | rw [w_add_in (by omega) (by omega)] | rw [w_sub_in (by omega) (by omega)] | rw [w_mul_in (by omega) (by omega)] | rw [outP_enter])
        exact hK _ h6.ext
      · have q0 : (sizeP S O Q).2 ≠ 0 := by rw [e0]; decide
        have q1 := t2 q0
        have q2 : ¬ Q ≤ (S.free.length : Int) := fun r => q0 (t1.2 r)
        have d3 : decide (Q ≤ (S.free.length : Int)) = false := decide_eq_false q2
        have d4 : decide ((6 : Int) = 0) = false := rfl
        rw [e0]
        repeat (first | rw [outP_val] | rw [guardP_true] | rw [guardP_false] | rw [condP_true] | rw [dl] | rw [d3] | rw [d4] | rw [bool_neqT] | rw [condP_false] | rw [boolIs_bool] | rw [boolIs_undef] | rw [beq_tt] | rw [beq_ff] | rw [Bool.not_true] | rw [Bool.not_false] | rw [outP_skip] | rw [w_pick_b] | rw [if_pos rfl] | rw [if_neg Bool.false_ne_true] | rw [w_fieldAddr_ptr] | rw [w_nil_ptr] | rw [Nat.zero_add] | rw [w_load_c] | rw [w_load_n] | rw [vO_some] | rw [w_store_c] | rw [w_not] | rw [w_lss] | rw [w_leq] | rw [w_gtr] | rw [w_geq] | rw [w_eql] | rw [w_neq] | rw [w_cint] | rw [w_min2_int] | rw [w_max2_int] | rw [w_add_in (by omega) (by omega)] | rw [w_sub_in (by omega) (by omega)] | rw [w_mul_in (by omega) (by omega)])
        rw [outP_enter]
        refine free_plx h2 _ ?_
        rw [show ((sizeP S O Q).1.free.length : Int) = (S.free.length : Int) by rw [q1]]
        repeat (first | rw [outP_val] | rw [guardP_true] | rw [guardP_false] | rw [condP_true] | rw [dl] | rw [condP_false] | rw [boolIs_bool] | rw [boolIs_undef] | rw [beq_tt] | rw [beq_ff] | rw [Bool.not_true] | rw [Bool.not_false] | rw [outP_skip] | rw [w_pick_b] | rw [if_pos rfl] | rw [if_neg Bool.false_ne_true] | rw [w_fieldAddr_ptr] | rw [w_nil_ptr] | rw [Nat.zero_add] | rw [w_load_c] | rw [w_load_n] | rw [vO_some] | rw [w_store_c] | rw [w_not] | rw [w_lss] | rw [w_leq] | rw [w_gtr] | rw [w_geq] | rw [w_eql] | rw [w_neq] | rw [w_cint] | rw [w_min2_int] | rw [w_max2_int] | rw [w_add_in (by omega) (by omega)] | rw [w_sub_in (by omega) (by omega)] | rw [w_mul_in (by omega) (by omega)])
        rw [outP_enter]
        refine of_plx h2 i1 (by omega) O _ fun G3 l3 B3 x3 h3 hB3 os3 => ?_
        have l3 := os3.is.len ints_sl
        rw [show (sizeP S O Q).1.of O = [] by rw [q1]; exact ho'] at l3
        have l3' : ∀ G' : AH, w_len PP 33 G' _ = some (.val (.int .i64 0) G') := l3
        repeat (first | rw [outP_val] | rw [guardP_true] | rw [guardP_false] | rw [condP_true] | rw [l3'] | rw [dl] | rw [d4] | rw [condP_false] | rw [boolIs_bool] | rw [boolIs_undef] | rw [beq_tt] | rw [beq_ff] | rw [Bool.not_true] | rw [Bool.not_false] | rw [outP_skip] | rw [w_pick_b] | rw [if_pos rfl] | rw [if_neg Bool.false_ne_true] | rw [w_fieldAddr_ptr] | rw [w_nil_ptr] | rw [Nat.zero_add] | rw [w_load_c] | rw [w_load_n] | rw [vO_some] | rw [w_store_c] | rw [w_not] | rw [w_lss] | rw [w_leq] | rw [w_gtr] | rw [w_geq] | rw [w_eql] | rw [w_neq] | rw [w_cint] | rw [w_min2_int] | rw [w_max2_int] | rw [w_add_in (by omega) (by omega)] | rw [w_sub_in (by omega) (by omega)] | rw [w_mul_in (by omega) (by omega)])
        rw [outP_enter]
        refine size_plx h3 i1 (by omega) (by omega) _ fun G4 h4 => ?_
        rw [t4]
        repeat (first | rw [outP_val] | rw [guardP_true] | rw [guardP_false] | rw [condP_true] | rw [dl] | rw [condP_false] | rw [boolIs_bool] | rw [boolIs_undef] | rw [beq_tt] | rw [beq_ff] | rw [Bool.not_true] | rw [Bool.not_false] | rw [outP_skip] | rw [w_pick_b] | rw [if_pos rfl] | rw [if_neg Bool.false_ne_true] | rw [w_fieldAddr_ptr] | rw [w_nil_ptr] | rw [Nat.zero_add] | rw [w_load_c] | rw [w_load_n] | rw [vO_some] | rw [w_store_c] | rw [w_not] | rw [w_lss] | rw [w_leq] | rw [w_gtr] | rw [w_geq] | rw [w_eql] | rw [w_neq] | rw [w_cint] | rw [w_min2_int] | rw [w_max2_int] | rw [w_add_in (by omega) (by omega)] | rw [w_sub_in (by omega) (by omega)] | rw [w_mul_in (by omega) (by omega)])
        rw [outP_enter]
        refine free_plx h4 _ ?_
        rw [t5]
        repeat (first | rw [outP_val] | rw [guardP_true] | rw [guardP_false] | rw [condP_true] | rw [dl] | rw [condP_false] | rw [boolIs_bool] | rw [boolIs_undef] | rw [beq_tt] | rw [beq_ff] | rw [Bool.not_true] | rw [Bool.not_false] | rw [outP_skip] | rw [w_pick_b] | rw [if_pos rfl] | rw [if_neg Bool.false_ne_true] | rw [w_fieldAddr_ptr] | rw [w_nil_ptr] | rw [Nat.zero_add] | rw [w_load_c] | rw [w_load_n] | rw [vO_some] | rw [w_store_c] | rw [w_not] | rw [w_lss] | rw [w_leq] | rw [w_gtr] | rw [w_geq] | rw [w_eql] | rw [w_neq] | rw [w_cint] | rw [w_min2_int] | rw [w_max2_int] | rw [w_add_in (by omega) (by omega)] | rw [w_sub_in (by omega) (by omega)] | rw [w_mul_in (by omega) (by omega)])
        rw [outP_enter]
        refine of_plx h4 i2 (by omega) O _ fun G5 l5 B5 x5 h5 hB5 os5 => ?_
        have l5 := os5.is.len ints_sl
        rw [t6] at l5
        have l5' : ∀ G' : AH, w_len PP 33 G' _ = some (.val (.int .i64 0) G') := l5
        repeat (first | rw [outP_val] | rw [guardP_true] | rw [guardP_false] | rw [condP_true] | rw [l5'] | rw [dl] | rw [condP_false] | rw [boolIs_bool] | rw [boolIs_undef] | rw [beq_tt] | rw [beq_ff] | rw [Bool.not_true] | rw [Bool.not_false] | rw [outP_skip] | rw [w_pick_b] | rw [if_pos rfl] | rw [if_neg Bool.false_ne_true] | rw [w_fieldAddr_ptr] | rw [w_nil_ptr] | rw [Nat.zero_add] | rw [w_load_c] | rw [w_load_n] | rw [vO_some] | rw [w_store_c] | rw [w_not] | rw [w_lss] | rw [w_leq] | rw [w_gtr] | rw [w_geq] | rw [w_eql] | rw [w_neq] | rw [w_cint] | rw [w_min2_int] | rw [w_max2_int] | rw [w_add_in (by omega) (by omega)] | rw [w_sub_in (by omega) (by omega)] | rw [w_mul_in (by omega) (by omega)])
        rw [outP_enter]
        refine size_plx h5 i2 (by omega) (by omega) _ fun G6 h6 => ?_
        rw [t7]
        repeat (first | rw [outP_val] | rw [guardP_true] | rw [guardP_false] | rw [condP_true] | rw [dl] | rw [condP_false] | rw [boolIs_bool] | rw [boolIs_undef] | rw [beq_tt] | rw [beq_ff] | rw [Bool.not_true] | rw [Bool.not_false] | rw [outP_skip] | rw [w_pick_b] | rw [if_pos rfl] | rw [if_neg Bool.false_ne_true] | rw [w_fieldAddr_ptr] | rw [w_nil_ptr] | rw [Nat.zero_add] | rw [w_load_c] | rw [w_load_n] | rw [vO_some] | rw [w_store_c] | rw [w_not] | rw [w_lss] | rw [w_leq] | rw [w_gtr] | rw [w_geq] | rw [w_eql] | rw [w_neq] | rw [w_cint] | rw [w_min2_int] | rw [w_max2_int] | rw [w_add_in (by omega) (by omega)] | rw [w_sub_in (by omega) (by omega)] | rw [w_mul_in (by omega) (by omega)] | rw [outP_enter])
        exact hK _ h6.ext
end
end Go.Ab
