/- fieldfarelaw7.PoolLeast: what it does, at any three numbers. -/
import Derived.Test.YtjpjmeidpjjgdaaGreatDoorPoolX
import Derived.Test.YtjpjmeidpjjgdaaGreatDoorP7
namespace Go.Ab
noncomputable section
open Go.Proofs
set_option maxRecDepth 10000
variable {H H' : AH}

theorem tdiv_two {a : Int} (h : 0 ≤ a) : a.tdiv 2 = a / 2 := Int.tdiv_eq_ediv_of_nonneg h
theorem poolLeast_wp (a b c : Int) (hl : Laid H) (K : AV → AH → Prop) (hK : ∀ H', Ext [] H H' → K (.bool true) H') : CC.call 7 [.int .i64 a, .int .i64 b, .int .i64 c] H K := by
  refine m_fieldfarelaw7_PoolLeast_ok _ _ _ _ _ ?_
  unfold m_fieldfarelaw7_PoolLeast m_fieldfarelaw7_PoolLeastt
  rw [outP_enter]
  refine begun_wp hl _ ?_
  unfold m_fieldfarelaw7_PoolLeasttt
  rw [w_not, outP_val, Bool.not_true, condP_false]
  unfold m_fieldfarelaw7_PoolLeastttt
  obtain ⟨a1, a2, a3, a4⟩ := modn a (m := 20) (by decide)
  obtain ⟨b1, b2, b3, b4⟩ := modn b (m := 20) (by decide)
  obtain ⟨c1, c2, c3, c4⟩ := modn c (m := 20) (by decide)
  have q : (20 : Int) ≠ 0 := by decide
  rw [w_rem _ _ _ q, outP_val, w_add_in (by omega) (by omega), outP_val, w_rem _ _ _ q, outP_val, w_rem _ _ _ q, outP_val, w_add_in (by omega) (by omega), outP_val, w_rem _ _ _ q, outP_val, w_rem _ _ _ q, outP_val, w_add_in (by omega) (by omega), outP_val, w_rem _ _ _ q, outP_val]
  generalize (a.tmod 20 + 20).tmod 20 = A at *
  generalize (b.tmod 20 + 20).tmod 20 = B at *
  generalize (c.tmod 20 + 20).tmod 20 = C at *
  have i2 : IntKind.i64.wrap (A.tdiv 2) = A / 2 := by rw [tdiv_two a3]; exact wrap64_in (by omega) (by omega)
  have q2 : (2 : Int) ≠ 0 := by decide
  unfold m_fieldfarelaw7_PoolLeasttttt
  rw [outP_enter]
  refine new_plx 100 _ fun G1 p h1 => ?_
  have e100 : startP (min (max (100 : Int) 0) 1000).toNat = startP 100 := rfl
  rw [e100] at h1
  have v1 := start_inv 100
  unfold m_fieldfarelaw7_PoolLeastttttt
  rw [outP_enter]
  refine size_plx h1 v1 (by omega) (by omega) _ fun G2 h2 => ?_
  have v2 := size_inv v1 1 A
  unfold m_fieldfarelaw7_PoolLeasttttttt
  rw [outP_enter]
  refine size_plx h2 v2 (by omega) (by omega) _ fun G3 h3 => ?_
  have v3 := size_inv v2 2 B
  unfold m_fieldfarelaw7_PoolLeastttttttt
  rw [w_quo _ _ _ q2, outP_val, i2, outP_enter]
  refine size_plx h3 v3 (by omega) (by omega) _ fun G4 h4 => ?_
  have v4 := size_inv v3 1 (A / 2)
  unfold m_fieldfarelaw7_PoolLeasttttttttt
  rw [outP_enter]
  refine size_plx h4 v4 (by omega) (by omega) _ fun G5 h5 => ?_
  have v5 := size_inv v4 3 C
  obtain ⟨o3, o1, o2⟩ := least_law ⟨a3, a4⟩ ⟨b3, b4⟩ ⟨c3, c4⟩
  have hlen := least_len ⟨a3, a4⟩ ⟨b3, b4⟩ ⟨c3, c4⟩
  have hat := fun i hi => least_at (i := i) ⟨a3, a4⟩ ⟨b3, b4⟩ ⟨c3, c4⟩ hi
  have h5 : Plx H G5 p (leastP A B C) := h5
  have v5 : PInv 100 (leastP A B C) := v5
  generalize leastP A B C = S at *
  unfold m_fieldfarelaw7_PoolLeastttttttttt
  rw [outP_enter]
  refine of_plx h5 v5 (by omega) 3 _ fun G6 l Bl x6 h6 hBl os => ?_
  rw [o3] at os
  generalize (segI (A / 2) A ++ segI (A + B) 100).take C.toNat = L at *
  have ll := os.is.len ints_sl
  rw [hlen, Int.toNat_of_nonneg c3] at ll
  unfold m_fieldfarelaw7_PoolLeasttttttttttth
  rw [ll, outP_val]
  unfold m_fieldfarelaw7_PoolLeasttttttttttthtb
  refine loopP_rule (I := fun t G => ∃ j : Nat, t = (.int .i64 A, .int .i64 B, .int .i64 C, .ptr (some (p, 0)), l, .int .i64 C, .int .i64 j) ∧ (j : Int) ≤ C ∧ G = G6) (μ := fun t _ => match t.2.2.2.2.2.2 with | .int _ z => C.toNat - z.toNat | _ => 0) ?_ ⟨0, rfl, by omega, rfl⟩
  rintro t G ⟨j, rfl, hj, rfl⟩ rec hrec
  unfold m_fieldfarelaw7_PoolLeasttttttttttthtbl
  rw [w_lss, outP_val]
  unfold m_fieldfarelaw7_PoolLeasttttttttttthtblt
  by_cases cj : (j : Int) < C
  · have hjL : j < L.length := by omega
    obtain ⟨o, d1, _, d3⟩ := os.is.at hjL
    have hv := hat j cj
    rw [List.getElem?_eq_getElem hjL] at hv
    have hv := Option.some.inj hv
    have next : rec (.int .i64 A, .int .i64 B, .int .i64 C, .ptr (some (p, 0)), l, .int .i64 C, .int .i64 ((j : Int) + 1)) G := hrec _ _ ⟨j + 1, by rfl, by omega, rfl⟩ (by
      show C.toNat - ((j : Int) + 1).toNat < C.toNat - (j : Int).toNat
      omega)
    have dl : ∀ z : Int, decide (z = z) = true := fun z => decide_eq_true rfl
    have fin : ∀ z : Int, L[j] = z → m_fieldfarelaw7_PoolLeasttttttttttthtbltthbttt K rec (.int .i64 A) (.int .i64 B) (.int .i64 C) (.ptr (some (p, 0))) l (.int .i64 j) (.int .i64 z) (.int .i64 C) (.int .i64 j) G := fun z hz => by
      unfold m_fieldfarelaw7_PoolLeasttttttttttthtbltthbttt
      rw [hz] at d3
      repeat (first | rw [outP_val] | rw [guardP_true] | rw [guardP_false] | rw [condP_true] | rw [d1] | rw [d3] | rw [dl] | rw [condP_false] | rw [boolIs_bool] | rw [beq_tt] | rw [beq_ff] | rw [Bool.not_true] | rw [Bool.not_false] | rw [outP_skip] | rw [w_pick_b] | rw [if_pos rfl] | rw [if_neg Bool.false_ne_true] | rw [w_fieldAddr_ptr] | rw [w_nil_ptr] | rw [Nat.zero_add] | rw [w_load_c] | rw [w_load_n] | rw [vO_some] | rw [w_store_c] | rw [w_not] | rw [w_lss] | rw [w_leq] | rw [w_gtr] | rw [w_geq] | rw [w_eql] | rw [w_neq] | rw [w_cint] | rw [w_min2_int] | rw [w_max2_int] | rw [w_add_in (by omega) (by omega)] | rw [w_sub_in (by omega) (by omega)] | rw [w_mul_in (by omega) (by omega)] | rw [outP_enter])
      exact next
    rw [decide_eq_true cj, condP_true]
    unfold m_fieldfarelaw7_PoolLeasttttttttttthtbltthb m_fieldfarelaw7_PoolLeasttttttttttthtbltthbt
    rw [w_quo _ _ _ q2, outP_val, i2, w_add_in (by omega) (by omega), outP_val]
    unfold m_fieldfarelaw7_PoolLeasttttttttttthtbltthbtt
    rw [w_quo _ _ _ q2, outP_val, i2, w_sub_in (by omega) (by omega), outP_val, w_geq, outP_val]
    by_cases d : A - A / 2 ≤ (j : Int)
    · rw [decide_eq_true d, condP_true, w_add_in (by omega) (by omega), outP_val, w_add_in (by omega) (by omega), outP_val, w_quo _ _ _ q2, outP_val, i2, w_sub_in (by omega) (by omega), outP_val, w_sub_in (by omega) (by omega), outP_val]
      rw [if_pos d] at hv
      exact fin _ hv
    · rw [decide_eq_false d, condP_false]
      rw [if_neg d] at hv
      exact fin _ hv
  · have ej : (j : Int) = C := by omega
    have dl : ∀ z : Int, decide (z = z) = true := fun z => decide_eq_true rfl
    rw [decide_eq_false cj, condP_false]
    repeat (first | rw [outP_val] | rw [guardP_true] | rw [guardP_false] | rw [condP_true] | rw [ll] | rw [dl] | rw [condP_false] | rw [boolIs_bool] | rw [beq_tt] | rw [beq_ff] | rw [Bool.not_true] | rw [Bool.not_false] | rw [outP_skip] | rw [w_pick_b] | rw [if_pos rfl] | rw [if_neg Bool.false_ne_true] | rw [w_fieldAddr_ptr] | rw [w_nil_ptr] | rw [Nat.zero_add] | rw [w_load_c] | rw [w_load_n] | rw [vO_some] | rw [w_store_c] | rw [w_not] | rw [w_lss] | rw [w_leq] | rw [w_gtr] | rw [w_geq] | rw [w_eql] | rw [w_neq] | rw [w_cint] | rw [w_min2_int] | rw [w_max2_int] | rw [w_add_in (by omega) (by omega)] | rw [w_sub_in (by omega) (by omega)] | rw [w_mul_in (by omega) (by omega)])
    rw [outP_enter]
    refine of_plx h6 v5 (by omega) 1 _ fun G7 l7 B7 x7 h7 hB7 os7 => ?_
    have l7 := os7.is.len ints_sl
    rw [o1, seg_len, show (((A / 2 - 0).toNat : Nat) : Int) = A / 2 by omega] at l7
    repeat (first | rw [outP_val] | rw [guardP_true] | rw [guardP_false] | rw [condP_true] | rw [l7] | rw [dl] | rw [w_quo _ _ _ q2] | rw [i2] | rw [condP_false] | rw [boolIs_bool] | rw [beq_tt] | rw [beq_ff] | rw [Bool.not_true] | rw [Bool.not_false] | rw [outP_skip] | rw [w_pick_b] | rw [if_pos rfl] | rw [if_neg Bool.false_ne_true] | rw [w_fieldAddr_ptr] | rw [w_nil_ptr] | rw [Nat.zero_add] | rw [w_load_c] | rw [w_load_n] | rw [vO_some] | rw [w_store_c] | rw [w_not] | rw [w_lss] | rw [w_leq] | rw [w_gtr] | rw [w_geq] | rw [w_eql] | rw [w_neq] | rw [w_cint] | rw [w_min2_int] | rw [w_max2_int] | rw [w_add_in (by omega) (by omega)] | rw [w_sub_in (by omega) (by omega)] | rw [w_mul_in (by omega) (by omega)])
    rw [outP_enter]
    refine of_plx h7 v5 (by omega) 2 _ fun G8 l8 B8 x8 h8 hB8 os8 => ?_
    have l8 := os8.is.len ints_sl
    rw [o2, seg_len, show (((A + B - A).toNat : Nat) : Int) = B by omega] at l8
    repeat (first | rw [outP_val] | rw [guardP_true] | rw [guardP_false] | rw [condP_true] | rw [l8] | rw [dl] | rw [condP_false] | rw [boolIs_bool] | rw [beq_tt] | rw [beq_ff] | rw [Bool.not_true] | rw [Bool.not_false] | rw [outP_skip] | rw [w_pick_b] | rw [if_pos rfl] | rw [if_neg Bool.false_ne_true] | rw [w_fieldAddr_ptr] | rw [w_nil_ptr] | rw [Nat.zero_add] | rw [w_load_c] | rw [w_load_n] | rw [vO_some] | rw [w_store_c] | rw [w_not] | rw [w_lss] | rw [w_leq] | rw [w_gtr] | rw [w_geq] | rw [w_eql] | rw [w_neq] | rw [w_cint] | rw [w_min2_int] | rw [w_max2_int] | rw [w_add_in (by omega) (by omega)] | rw [w_sub_in (by omega) (by omega)] | rw [w_mul_in (by omega) (by omega)] | rw [outP_enter])
    exact hK _ h8.ext
end
end Go.Ab
