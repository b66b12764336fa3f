/- fieldfarelaw7.MeansAll: what it does, at any input. -/
import Derived.Test.YtjpjmeidpjjgdaaGreatDoorRMids
import Derived.Test.YtjpjmeidpjjgdaaGreatDoorP4
namespace Go.Ab
noncomputable section
open Go.Proofs
set_option maxRecDepth 10000
variable {H H' : AH}

/-! Plain. -/
theorem turn_good {M L : List (List Int)} {d : Nat} (hM : ∀ V ∈ M, V.length = d ∧ Co V) (hL : ∀ V ∈ L, Co V) : ∀ V ∈ turnM M L, V.length = d ∧ Co V := by
  intro V hV
  obtain ⟨i, hi, rfl⟩ := List.mem_map.1 hV
  have hi := List.mem_range.1 hi
  have e : M.getD i [] = M[i] := by rw [List.getD_eq_getElem?_getD, List.getElem?_eq_getElem hi]; rfl
  obtain ⟨m1, m2⟩ := hM _ (List.getElem_mem hi)
  rw [e]
  refine ⟨by rw [midV_len]; exact m1, ?_⟩
  unfold midV
  by_cases c : ofM M L i = []
  · rw [if_pos c]; exact m2
  · rw [if_neg c]
    intro x hx
    obtain ⟨j, _, rfl⟩ := List.mem_map.1 hx
    exact mean_bnd (fun W hW => co_getD (hL W (List.mem_filter.1 hW).1) j) c
theorem iter_good {L : List (List Int)} {d : Nat} (hL : ∀ V ∈ L, V.length = d ∧ Co V) : ∀ (k : Nat) (M : List (List Int)), (∀ V ∈ M, V.length = d ∧ Co V) → ∀ V ∈ iterM L k M, V.length = d ∧ Co V
  | 0, _, h => h
  | k + 1, M, h => turn_good (iter_good hL k M h) fun V hV => (hL V hV).2
theorem mids_good {L : List (List Int)} {d : Nat} (hL : ∀ V ∈ L, V.length = d ∧ Co V) (n r : Int) : ∀ V ∈ midsM n r L, V.length = d ∧ Co V :=
  iter_good hL _ _ fun V hV => hL V (begM_mem hV)
theorem iter_len (L : List (List Int)) : ∀ (k : Nat) (M : List (List Int)), (iterM L k M).length = M.length
  | 0, _ => rfl
  | k + 1, M => by show (turnM (iterM L k M) L).length = _; rw [turnM_len, iter_len L k M]
theorem fold_ge (n : Nat) : ∀ (L M : List (List Int)), M.length ≤ (L.foldl (addM n) M).length
  | [], _ => Nat.le_refl _
  | V :: L, M => by
    have := fold_ge n L (addM n M V)
    have h : M.length ≤ (addM n M V).length := by unfold addM; split <;> simp
    show M.length ≤ (L.foldl (addM n) (addM n M V)).length
    omega
theorem mids_ne {L : List (List Int)} {n r : Int} (h : (midsM n r L).length = 0) : L.length = 0 := by
  unfold midsM at h
  rw [iter_len] at h
  cases L with
  | nil => rfl
  | cons V L =>
    have := fold_ge (min (max n 1) 16).toNat L (addM (min (max n 1) 16).toNat [] V)
    have e : (addM (min (max n 1) 16).toNat [] V).length = 1 := by unfold addM; rw [if_pos ⟨by simp; omega, by simp⟩]; rfl
    have h : (L.foldl (addM (min (max n 1) 16).toNat) (addM (min (max n 1) 16).toNat [] V)).length = 0 := h
    omega
theorem mids_16 (n r : Int) (L : List (List Int)) : (midsM n r L).length ≤ 16 := by
  have key : ∀ (k : Nat) (L M : List (List Int)), M.length ≤ k → (L.foldl (addM k) M).length ≤ k := by
    intro k L
    induction L with
    | nil => intro M h; exact h
    | cons V L ih =>
      intro M h
      refine ih _ ?_
      unfold addM
      split
      · rename_i q; rw [List.length_append, List.length_singleton]; omega
      · exact h
  unfold midsM
  rw [iter_len]
  have := key (min (max n 1) 16).toNat L [] (Nat.zero_le _)
  unfold begM; omega

theorem meansAll_wp {b bv : Nat} {s v : AV} {Y0 : List Vq} {V0 : List Int} (n r dim : Int) (h : Sl H 1 b s (vrow Y0)) (hy : ∀ y ∈ Y0, VEl H y) (hv : Is .i32 H bv v V0) (hl : Laid H) (K : AV → AH → Prop) (hK : ∀ H', Ext [] H H' → K (.bool true) H') :
    CC.call 4 [.int .i64 n, .int .i64 r, .int .i64 dim, s, v] H K := by
  refine m_fieldfarelaw7_MeansAll_ok _ _ _ _ _ _ _ ?_
  unfold m_fieldfarelaw7_MeansAll m_fieldfarelaw7_MeansAllt
  rw [outP_enter]
  refine begun_wp hl _ ?_
  unfold m_fieldfarelaw7_MeansAlltt
  rw [w_not, outP_val, Bool.not_true, condP_false]
  unfold m_fieldfarelaw7_MeansAllttt
  rw [outP_enter]
  refine dim_wp dim _ fun d hd1 hd2 => ?_
  unfold m_fieldfarelaw7_MeansAlltttt
  rw [outP_enter]
  refine vecs_wp h hy d 25 ⟨hd1, hd2⟩ (by omega) _ fun G1 s1 B1 Y x1 hB1 z1 vz => ?_
  have hYl : Y.length ≤ 25 := by have := congrArg List.length vz; simp at this; omega
  have hYd : ∀ y ∈ Y, y.2.2.length = d ∧ Co y.2.2 := fun z q => by
    have : z.2.2 ∈ (Y0.take 25).map fun y => vecL y.2.2 d := by rw [← vz]; exact List.mem_map.2 ⟨z, q, rfl⟩
    obtain ⟨y, hy, e⟩ := List.mem_map.1 this
    rw [← e]; exact ⟨vecL_len _ _, vecL_in _ _⟩
  have vs1 : Vs G1 B1 s1 Y := z1.vsM (by omega) fun z q => by have := (hYd z q).1; omega
  have hd0 : ∀ y ∈ Y, 1 ≤ y.2.2.length := fun y q => by have := (hYd y q).1; omega
  unfold m_fieldfarelaw7_MeansAllttttt
  rw [outP_enter]
  refine midsN_wp vs1 hd0 n r _ fun G2 s2 B2 Z x2 hB2 z2 vZ => ?_
  rw [outP_enter]
  refine rMids_wp (vs1.mono0 x2) hd0 n r _ fun G3 s3 B3 W x3 hB3 z3 vW => ?_
  have mg := mids_good (L := vals Y) (d := d) (fun V hV => by obtain ⟨y, q, rfl⟩ := List.mem_map.1 hV; exact hYd y q) n r
  have m16 := mids_16 n r (vals Y)
  have mne := mids_ne (L := vals Y) (n := n) (r := r)
  generalize midsM n r (vals Y) = M at *
  have lZ : Z.length = M.length := by rw [← vZ]; simp
  have lW : W.length = M.length := by rw [← vW]; simp
  have memZ : ∀ z ∈ Z, z.2.2.length = d ∧ Co z.2.2 := fun z q => mg _ (by rw [← vZ]; exact List.mem_map.2 ⟨z, q, rfl⟩)
  have memW : ∀ z ∈ W, z.2.2.length = d ∧ Co z.2.2 := fun z q => mg _ (by rw [← vW]; exact List.mem_map.2 ⟨z, q, rfl⟩)
  have vsZ : Vs G3 B2 s2 Z := (z2.mono0 x3).vsM (by omega) fun z q => by have := (memZ z q).1; omega
  have vsW : Vs G3 B3 s3 W := z3.vsM (by omega) fun z q => by have := (memW z q).1; omega
  have x13 := x1.trans (x2.trans x3)
  have vY3 := vs1.mono0 (x2.trans x3)
  unfold m_fieldfarelaw7_MeansAlltttttt
  rw [vrow_len vsZ.sl, outP_val, vrow_len vsW.sl, outP_val, w_neq, outP_val, decide_eq_true (by omega), Bool.not_true, condP_false]
  unfold m_fieldfarelaw7_MeansAllttttttth
  rw [vrow_len vsZ.sl, outP_val]
  unfold m_fieldfarelaw7_MeansAllttttttthtb
  refine loopP_rule (I := fun t G => ∃ k : Nat, t = (.int .i64 d, v, s1, s2, s3, .int .i64 Z.length, .int .i64 k) ∧ k ≤ Z.length ∧ G = G3) (μ := fun t _ => match t.2.2.2.2.2.2 with | .int _ z => Z.length - z.toNat | _ => 0) ?_ ⟨0, rfl, Nat.zero_le _, rfl⟩
  rintro t G ⟨k, rfl, hk, rfl⟩ rec hrec
  unfold m_fieldfarelaw7_MeansAllttttttthtbl
  dsimp only
  rw [w_lss, outP_val]
  by_cases ck : k < Z.length
  · have ckW : k < W.length := by omega
    obtain ⟨p, a1, _, a3⟩ := vrow_at vsZ.sl ck
    obtain ⟨q, d1, _, d3⟩ := vrow_at vsW.sl ckW
    have mz := List.getElem_mem ck
    have mw := List.getElem_mem ckW
    have e : Z[k].2.2 = W[k].2.2 := by rw [← vals_at ck, ← vals_at ckW, vZ, vW]
    have hz := vsZ.el _ mz
    rw [decide_eq_true (by omega), condP_true, a1, outP_val, w_load_c, a3, vO_some, outP_val, d1, outP_val, w_load_c, d3, vO_some, outP_val, outP_enter]
    refine vecEq_wp hz.is (vsW.el _ mw).is (by have := (memZ _ mz).1; omega) _ ?_
    rw [decide_eq_true e]
    repeat (first | rw [outP_val] | rw [guardP_true] | rw [guardP_false] | rw [condP_true] | rw [a1] | rw [a3] | rw [condP_false] | rw [boolIs_bool] | rw [boolIs_undef] | rw [beq_tt] | rw [beq_ff] | rw [Bool.not_true] | rw [Bool.not_false] | rw [outP_skip] | rw [w_pick_b] | rw [if_pos rfl] | rw [if_neg Bool.false_ne_true] | rw [w_fieldAddr_ptr] | rw [w_nil_ptr] | rw [Nat.zero_add] | rw [w_load_c] | rw [w_load_n] | rw [vO_some] | rw [w_store_c] | rw [w_not] | rw [w_lss] | rw [w_leq] | rw [w_gtr] | rw [w_geq] | rw [w_eql] | rw [w_neq] | rw [w_cint] | rw [w_min2_int] | rw [w_max2_int] | rw [w_add_in (by omega) (by omega)] | rw [w_sub_in (by omega) (by omega)] | rw [w_mul_in (by omega) (by omega)])
    rw [outP_enter]
    refine may_wp hz.is d _ ?_
    rw [(mayB_iff Z[k].2.2 d).2 ⟨by omega, by omega, by rw [(memZ _ mz).1], (memZ _ mz).2⟩]
    repeat (first | rw [outP_val] | rw [guardP_true] | rw [guardP_false] | rw [condP_true] | rw [condP_false] | rw [boolIs_bool] | rw [boolIs_undef] | rw [beq_tt] | rw [beq_ff] | rw [Bool.not_true] | rw [Bool.not_false] | rw [outP_skip] | rw [w_pick_b] | rw [if_pos rfl] | rw [if_neg Bool.false_ne_true] | rw [w_fieldAddr_ptr] | rw [w_nil_ptr] | rw [Nat.zero_add] | rw [w_load_c] | rw [w_load_n] | rw [vO_some] | rw [w_store_c] | rw [w_not] | rw [w_lss] | rw [w_leq] | rw [w_gtr] | rw [w_geq] | rw [w_eql] | rw [w_neq] | rw [w_cint] | rw [w_min2_int] | rw [w_max2_int] | rw [w_sub_in (by omega) (by omega)] | rw [w_mul_in (by omega) (by omega)] | rw [outP_enter])
    rw [w_add_in (by omega) (by omega), outP_val]
    refine hrec _ _ ⟨k + 1, by rfl, by omega, rfl⟩ ?_
    show Z.length - ((k : Int) + 1).toNat < Z.length - (k : Int).toNat
    omega
  · rw [decide_eq_false (by omega), condP_false]
    unfold m_fieldfarelaw7_MeansAlltttttttt
    rw [outP_enter]
    refine vec_wp (Sl.mono hv x13 (by simp)) d hd2 _ fun G4 v4 B4 x4 hB4 o4 => ?_
    have hV := vecL_32 V0 d
    generalize vecL V0 d = V at *
    unfold m_fieldfarelaw7_MeansAllttttttttt
    rw [outP_enter]
    refine order_wp (vsZ.mono0 x4) o4.is hV _ fun G5 s5 B5 x5 hB5 o5 => ?_
    rw [outP_enter]
    refine rOrder_wp (vsW.mono0 (x4.trans x5)) (by omega) (Sl.mono o4.is x5 (by simp)) hV _ fun G6 s6 B6 x6 hB6 o6 => ?_
    rw [vZ] at o5
    rw [vW] at o6
    have lO := orderM_len M V
    have x46 := x4.trans (x5.trans x6)
    have v6 : Is .i32 G6 B4 v4 V := Sl.mono o4.is (x5.trans x6) (by simp)
    have i5 : Is .i64 G6 B5 s5 (orderM M V) := Sl.mono o5.is x6 (by simp)
    have l5 := i5.len ints_slM
    have l6 := o6.is.len ints_slM
    rw [lO] at l5 l6
    unfold m_fieldfarelaw7_MeansAlltttttttttt
    rw [l5, outP_val, l6, outP_val, w_neq, decide_eq_true (show ((M.length : Int)) = M.length from rfl)]
    repeat (first | rw [outP_val] | rw [guardP_true] | rw [guardP_false] | rw [condP_true] | rw [condP_false] | rw [boolIs_bool] | rw [boolIs_undef] | rw [beq_tt] | rw [beq_ff] | rw [Bool.not_true] | rw [Bool.not_false] | rw [outP_skip] | rw [w_pick_b] | rw [if_pos rfl] | rw [if_neg Bool.false_ne_true] | rw [w_fieldAddr_ptr] | rw [w_nil_ptr] | rw [Nat.zero_add] | rw [w_load_c] | rw [w_load_n] | rw [vO_some] | rw [w_store_c] | rw [w_not] | rw [w_lss] | rw [w_leq] | rw [w_gtr] | rw [w_geq] | rw [w_eql] | rw [w_neq] | rw [w_cint] | rw [w_min2_int] | rw [w_max2_int] | rw [w_add_in (by omega) (by omega)] | rw [w_sub_in (by omega) (by omega)] | rw [w_mul_in (by omega) (by omega)])
    rw [outP_enter]
    refine nearest_wp (vsZ.mono0 x46) v6 hV _ fun G7 x7 => ?_
    rw [vZ, show (orderM M V).headD (-1) = nearM M V from rfl]
    repeat (first | rw [outP_val] | rw [guardP_true] | rw [guardP_false] | rw [condP_true] | rw [condP_false] | rw [boolIs_bool] | rw [boolIs_undef] | rw [beq_tt] | rw [beq_ff] | rw [Bool.not_true] | rw [Bool.not_false] | rw [outP_skip] | rw [w_pick_b] | rw [if_pos rfl] | rw [if_neg Bool.false_ne_true] | rw [w_fieldAddr_ptr] | rw [w_nil_ptr] | rw [Nat.zero_add] | rw [w_load_c] | rw [w_load_n] | rw [vO_some] | rw [w_store_c] | rw [w_not] | rw [w_lss] | rw [w_leq] | rw [w_gtr] | rw [w_geq] | rw [w_eql] | rw [w_neq] | rw [w_cint] | rw [w_min2_int] | rw [w_max2_int] | rw [w_add_in (by omega) (by omega)] | rw [w_sub_in (by omega) (by omega)] | rw [w_mul_in (by omega) (by omega)])
    rw [outP_enter]
    refine rNear_wp (vsW.mono0 (x46.trans x7)) (Sl.mono v6 x7 (by simp)) hV _ ?_
    rw [vW, w_neq, decide_eq_true (show nearM M V = nearM M V from rfl)]
    repeat (first | rw [outP_val] | rw [guardP_true] | rw [guardP_false] | rw [condP_true] | rw [condP_false] | rw [boolIs_bool] | rw [boolIs_undef] | rw [beq_tt] | rw [beq_ff] | rw [Bool.not_true] | rw [Bool.not_false] | rw [outP_skip] | rw [w_pick_b] | rw [if_pos rfl] | rw [if_neg Bool.false_ne_true] | rw [w_fieldAddr_ptr] | rw [w_nil_ptr] | rw [Nat.zero_add] | rw [w_load_c] | rw [w_load_n] | rw [vO_some] | rw [w_store_c] | rw [w_not] | rw [w_lss] | rw [w_leq] | rw [w_gtr] | rw [w_geq] | rw [w_eql] | rw [w_neq] | rw [w_cint] | rw [w_min2_int] | rw [w_max2_int] | rw [w_add_in (by omega) (by omega)] | rw [w_sub_in (by omega) (by omega)] | rw [w_mul_in (by omega) (by omega)] | rw [outP_enter])
    unfold m_fieldfarelaw7_MeansAllttttttttttth
    rw [l5, outP_val]
    unfold m_fieldfarelaw7_MeansAllttttttttttthtb
    have i5' : Is .i64 G7 B5 s5 (orderM M V) := Sl.mono i5 x7 (by simp)
    have i6' : Is .i64 G7 B6 s6 (orderM M V) := Sl.mono o6.is x7 (by simp)
    refine loopP_rule (I := fun t G' => ∃ k : Nat, t = (v4, s1, s2, s5, s6, .int .i64 M.length, .int .i64 k) ∧ k ≤ M.length ∧ G' = G7) (μ := fun t _ => match t.2.2.2.2.2.2 with | .int _ z => M.length - z.toNat | _ => 0) ?_ ⟨0, rfl, Nat.zero_le _, rfl⟩
    rintro t G' ⟨j, rfl, hj, rfl⟩ rec2 hrec2
    unfold m_fieldfarelaw7_MeansAllttttttttttthtbl
    dsimp only
    rw [w_lss, outP_val]
    by_cases cj : j < M.length
    · obtain ⟨p, a1, _, a3⟩ := i5'.at (j := j) (by omega)
      obtain ⟨q, d1, _, d3⟩ := i6'.at (j := j) (by omega)
      rw [decide_eq_true (by omega), condP_true, a1, outP_val, w_load_c, a3, vO_some, outP_val, d1, outP_val, w_load_c, d3, vO_some, outP_val, w_neq, outP_val, decide_eq_true rfl, Bool.not_true, condP_false, w_add_in (by omega) (by omega), outP_val]
      refine hrec2 _ _ ⟨j + 1, by rfl, by omega, rfl⟩ ?_
      show M.length - ((j : Int) + 1).toNat < M.length - (j : Int).toNat
      omega
    · rw [decide_eq_false (by omega), condP_false, l5, outP_val, w_eql]
      have xe : Ext [] H G' := x13.trans (x46.trans x7)
      by_cases c0 : M.length = 0
      · have y0 := mne c0
        rw [List.length_map] at y0
        rw [decide_eq_true (by omega)]
        repeat (first | rw [outP_val] | rw [guardP_true] | rw [guardP_false] | rw [condP_true] | rw [vrow_len (vY3.mono0 (x46.trans x7)).sl] | rw [condP_false] | rw [boolIs_bool] | rw [boolIs_undef] | rw [beq_tt] | rw [beq_ff] | rw [Bool.not_true] | rw [Bool.not_false] | rw [outP_skip] | rw [w_pick_b] | rw [if_pos rfl] | rw [if_neg Bool.false_ne_true] | rw [w_fieldAddr_ptr] | rw [w_nil_ptr] | rw [Nat.zero_add] | rw [w_load_c] | rw [w_load_n] | rw [vO_some] | rw [w_store_c] | rw [w_not] | rw [w_lss] | rw [w_leq] | rw [w_gtr] | rw [w_geq] | rw [w_neq] | rw [w_cint] | rw [w_min2_int] | rw [w_max2_int] | rw [w_add_in (by omega) (by omega)] | rw [w_sub_in (by omega) (by omega)] | rw [w_mul_in (by omega) (by omega)] | rw [outP_enter])
        rw [w_eql, decide_eq_true (by omega)]
        repeat (first | rw [outP_val] | rw [guardP_true] | rw [guardP_false] | rw [condP_true] | rw [condP_false] | rw [boolIs_bool] | rw [boolIs_undef] | rw [beq_tt] | rw [beq_ff] | rw [Bool.not_true] | rw [Bool.not_false] | rw [outP_skip] | rw [w_pick_b] | rw [if_pos rfl] | rw [if_neg Bool.false_ne_true] | rw [w_fieldAddr_ptr] | rw [w_nil_ptr] | rw [Nat.zero_add] | rw [w_load_c] | rw [w_load_n] | rw [vO_some] | rw [w_store_c] | rw [w_not] | rw [w_lss] | rw [w_leq] | rw [w_gtr] | rw [w_geq] | rw [w_eql] | rw [w_neq] | rw [w_cint] | rw [w_min2_int] | rw [w_max2_int] | rw [w_add_in (by omega) (by omega)] | rw [w_sub_in (by omega) (by omega)] | rw [w_mul_in (by omega) (by omega)] | rw [outP_enter])
        exact hK _ xe
      · obtain ⟨p, a1, _, a3⟩ := i5'.at (j := 0) (by omega)
        have a1' : ∀ G : AH, w_indexAddr (.sl 1) G s5 (.int .i64 0) = some (.val (.ptr (some (B5, p))) G) := a1
        rw [decide_eq_false (by omega)]
        repeat (first | rw [outP_val] | rw [guardP_true] | rw [guardP_false] | rw [condP_true] | rw [l5] | rw [condP_false] | rw [boolIs_bool] | rw [boolIs_undef] | rw [beq_tt] | rw [beq_ff] | rw [Bool.not_true] | rw [Bool.not_false] | rw [outP_skip] | rw [w_pick_b] | rw [if_pos rfl] | rw [if_neg Bool.false_ne_true] | rw [w_fieldAddr_ptr] | rw [w_nil_ptr] | rw [Nat.zero_add] | rw [w_load_c] | rw [w_load_n] | rw [vO_some] | rw [w_store_c] | rw [w_not] | rw [w_lss] | rw [w_leq] | rw [w_geq] | rw [w_eql] | rw [w_neq] | rw [w_cint] | rw [w_min2_int] | rw [w_max2_int] | rw [w_add_in (by omega) (by omega)] | rw [w_sub_in (by omega) (by omega)] | rw [w_mul_in (by omega) (by omega)] | rw [outP_enter])
        rw [w_gtr, decide_eq_true (by omega)]
        repeat (first | rw [outP_val] | rw [guardP_true] | rw [guardP_false] | rw [condP_true] | rw [a1'] | rw [a3] | rw [condP_false] | rw [boolIs_bool] | rw [boolIs_undef] | rw [beq_tt] | rw [beq_ff] | rw [Bool.not_true] | rw [Bool.not_false] | rw [outP_skip] | rw [w_pick_b] | rw [if_pos rfl] | rw [if_neg Bool.false_ne_true] | rw [w_fieldAddr_ptr] | rw [w_nil_ptr] | rw [Nat.zero_add] | rw [w_load_c] | rw [w_load_n] | rw [vO_some] | rw [w_store_c] | rw [w_not] | rw [w_lss] | rw [w_leq] | rw [w_gtr] | rw [w_geq] | rw [w_eql] | rw [w_neq] | rw [w_cint] | rw [w_min2_int] | rw [w_max2_int] | rw [w_add_in (by omega) (by omega)] | rw [w_sub_in (by omega) (by omega)] | rw [w_mul_in (by omega) (by omega)])
        rw [outP_enter]
        refine nearest_wp (vsZ.mono0 (x46.trans x7)) (Sl.mono v6 x7 (by simp)) hV _ fun G8 x8 => ?_
        rw [vZ]
        have ib : ∀ (z : Int), AV.beq (.int .i64 z) (.int .i64 z) = true := fun z => by simp [AV.beq, eqZ_eq, kEq]
        obtain ⟨p', b1, _, b3⟩ := Is.at (Sl.mono i5' x8 (by simp) : Sl G8 1 B5 s5 (nums .i64 (orderM M V))) (j := 0) (by omega)
        have ep : p = p' := by
          have h1 := (a1 G8).symm.trans (b1 G8)
          simpa using h1
        subst ep
        rw [w_load_c, b3, vO_some, reC_val, ib, ckP_true]
        rw [← head_at _ (by omega), w_eql, decide_eq_true rfl]
        repeat (first | rw [outP_val] | rw [guardP_true] | rw [guardP_false] | rw [condP_true] | rw [condP_false] | rw [boolIs_bool] | rw [boolIs_undef] | rw [beq_tt] | rw [beq_ff] | rw [Bool.not_true] | rw [Bool.not_false] | rw [outP_skip] | rw [w_pick_b] | rw [if_pos rfl] | rw [if_neg Bool.false_ne_true] | rw [w_fieldAddr_ptr] | rw [w_nil_ptr] | rw [Nat.zero_add] | rw [w_load_c] | rw [w_load_n] | rw [vO_some] | rw [w_store_c] | rw [w_not] | rw [w_lss] | rw [w_leq] | rw [w_gtr] | rw [w_geq] | rw [w_eql] | rw [w_neq] | rw [w_cint] | rw [w_min2_int] | rw [w_max2_int] | rw [w_add_in (by omega) (by omega)] | rw [w_sub_in (by omega) (by omega)] | rw [w_mul_in (by omega) (by omega)] | rw [outP_enter])
        exact hK _ (xe.trans x8)
end
end Go.Ab
