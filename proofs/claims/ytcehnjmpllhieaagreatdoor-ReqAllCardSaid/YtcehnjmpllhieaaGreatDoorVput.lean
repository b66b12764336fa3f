/- The document's ways: a number, a vector in bytes; alike or not. -/
import Derived.Test.YtcehnjmpllhieaaGreatDoorBinG
import Derived.Test.YtcehnjmpllhieaaGreatDoorMC
namespace Go.Ab
noncomputable section
open Go.Proofs
set_option maxRecDepth 10000
variable {H H' : AH}

theorem and_255 (n : Int) : w_int .and H (.int .i64 n) (.int .i64 255) = some (.val (.int .i64 (n % 256)) H) := by
  rw [w_int_of rfl]
  have e : ((BitVec.ofInt 64 n &&& BitVec.ofInt 64 255).toNat : Int) = n % 256 := by
    rw [BitVec.toNat_and, BitVec.toNat_ofInt, show (BitVec.ofInt 64 255).toNat = 2 ^ 8 - 1 from rfl, Nat.and_two_pow_sub_one_eq_mod]
    show (((n % 18446744073709551616).toNat % 256 : Nat) : Int) = n % 256
    omega
  show vO H (some (.int .i64 (IntKind.i64.wrap ((BitVec.ofInt 64 n &&& BitVec.ofInt 64 255).toNat : Int)))) = _
  rw [e, vO_some, wrap64_in (by omega) (by omega)]
def stopB (n : Int) (j : Nat) : Prop := n / pw j = 0 ∧ (j = 0 ∨ n / pw (j - 1) % 256 < 128) ∨ n / pw j = -1 ∧ 1 ≤ j ∧ 128 ≤ n / pw (j - 1) % 256
theorem stopB_iff {n : Int} (hi : I64 n) {j : Nat} (hj : j ≤ sizeZ n) : stopB n j ↔ j = sizeZ n := by
  unfold stopB
  cases j with
  | zero =>
    rw [show n / pw 0 = n from Int.ediv_one n]
    constructor
    · rintro (⟨rfl, _⟩ | ⟨_, h, _⟩)
      · rfl
      · omega
    · intro h
      by_cases c : n = 0
      · exact .inl ⟨c, .inl rfl⟩
      · have := (size_spec c hi).1; omega
  | succ i =>
    have c : n ≠ 0 := fun q => by subst q; rw [size_zero] at hj; omega
    obtain ⟨a, b, f, g⟩ := size_spec c hi
    have st := stop_iff (n := n) (j := i + 1) (by omega)
    constructor
    · intro h
      have hf : fitsB (i + 1) n := st.1 (by omega)
      rcases Nat.lt_or_ge (i + 1) (sizeZ n) with q | q
      · exact absurd hf (g _ (by omega) q)
      · omega
    · intro h
      rw [← h] at f
      have := st.2 f
      omega
theorem rIntL_wp {n : Int} (hi : I64 n) (K : AV → AH → Prop) (hK : ∀ H' s B, Ext [] H H' → H.next ≤ B → Os 5 .u8 H' B s (encZ n) → K s H') : CC.call 50 [.int .i64 n] H K := by
  refine m_fieldfareref1_Int_ok _ _ _ ?_
  unfold m_fieldfareref1_Int m_fieldfareref1_Intt m_fieldfareref1_Inttth m_fieldfareref1_Inttthtb
  have k8 := size_le hi
  refine loopP_rule (I := fun t G => ∃ (j : Nat) (s : AV) (B : Nat), t = (s, .int .i64 (n / pw j)) ∧ j ≤ sizeZ n ∧ Ext [] H G ∧ H.next ≤ B ∧ Os 5 .u8 G B s (bytesB j n)) (μ := fun t _ => sizeZ n - (lenA t.1).getD 0) ?_ ⟨0, _, H.next, by rw [show n / pw 0 = n from Int.ediv_one n], Nat.zero_le _, Ext.refl _ _, Nat.le_refl _, os_nil _ _ _⟩
  rintro t G ⟨j, s, B, rfl, hj, x, hB, o⟩ rec hrec
  have lj : lenA s = some j := by have := Sl.lenA o.is; rwa [List.length_map, bytes_len] at this
  have ln : w_len PP 27 G s = some (.val (.int .i64 j) G) := by have := o.is.len u8_sl G; rwa [bytes_len] at this
  have fin : j = sizeZ n → outP CC G (w_len PP 27 G s) (fun v32 H32 => outP CC H32 (w_conv (.int .u8) H32 v32 none) fun v33 H33 => outP CC H33 (w_buildSlice PP 5 1 H33 [(0, v33)] none) fun v34 H34 => outP CC H34 (w_append 5 1 1 H34 v34 s none) fun v35 H35 => K v35 H35) := by
    intro e
    rw [ln, outP_val, w_cint, outP_val, wrap8_in (by omega) (by omega), bs_num u8_el, outP_val]
    have x1 : Ext [] G (G.new (.cells 5 [.int .u8 j])) := (Ext.refl _ _).new _
    obtain ⟨s', H', B', e1, e2, e3, e4⟩ := (os_one (H := G) 5 .u8 (j : Int)).append (by_ := 1) (Sl.mono o.is x1 (by simp)) (by omega) (by simp [bytes_len]; omega)
    have nx := x.next
    refine st e1 (hK _ _ B' (((x.trans x1).mono (m' := [G.next]) (by simp)).trans e2 |>.mono fun b hb hlt => by simp at hb; omega) (by rw [next_new] at e3; omega) ?_)
    show Own _ _ _ _ _ _
    rw [show encZ n = (j : Int) :: bytesB j n by rw [e]; rfl]
    simpa using e4
  have go : j < sizeZ n → outP CC G (w_int .and G (.int .i64 (n / pw j)) (.int .i64 255)) (fun v36 H36 => outP CC H36 (w_conv (.int .u8) H36 v36 none) fun v37 H37 => outP CC H37 (w_buildSlice PP 5 1 H37 [(0, v37)] none) fun v38 H38 => outP CC H38 (w_append 5 1 1 H38 s v38 none) fun v39 H39 => outP CC H39 (w_sh .shr H39 (.int .i64 (n / pw j)) (.int .u64 8)) fun v40 H40 => rec (v39, v40) H40) := by
    intro e
    rw [and_255, outP_val, w_cint, outP_val, wrap8_in (by omega) (by omega)]
    refine push_num u8_el (by omega) o (by rw [bytes_len]; omega) _ _ fun G1 s1 B1 e1 hB1 o1 => ?_
    rw [← bytes_snoc] at o1
    have nx := x.next
    have w8 : w_sh .shr G1 (.int .i64 (n / pw j)) (.int .u64 8) = some (.val (.int .i64 (n / pw (j + 1))) G1) := by
      have := w_shr (H := G1) (k := .u64) (n := n / pw j) (m := 8) (by omega)
      rw [show n / pw j / 2 ^ 8 = n / pw (j + 1) by rw [pw_succ, Int.mul_comm, ← Int.ediv_ediv_of_nonneg (by have := pw_pos j; omega)]; rfl] at this
      exact this
    rw [w8, outP_val]
    refine hrec _ _ ⟨j + 1, s1, B1, rfl, by omega, (x.mono (m' := [B]) (by simp)).trans e1 |>.mono fun b hb hlt => (by simp at hb; omega), by omega, o1⟩ ?_
    have l1 : lenA s1 = some (j + 1) := by have := Sl.lenA o1.is; rwa [List.length_map, bytes_len] at this
    show sizeZ n - (lenA s1).getD 0 < sizeZ n - (lenA s).getD 0
    rw [lj, l1]; show sizeZ n - (j + 1) < sizeZ n - j; omega
  have key := stopB_iff hi hj
  unfold stopB at key
  unfold m_fieldfareref1_Inttthtbl
  cases j with
  | zero =>
    by_cases c : n / pw 0 = 0
    · rw [w_eql, decide_eq_true c]
      repeat (first | rw [outP_val] | rw [guardP_true] | rw [ln] | rw [boolIs_bool] | rw [beq_tt] | rw [beq_ff] | rw [w_eql])
      rw [show decide (((0 : Nat) : Int) = 0) = true from rfl]
      repeat (first | rw [outP_val] | rw [guardP_true] | rw [guardP_false] | rw [condP_true] | rw [boolIs_bool] | rw [boolIs_undef] | rw [beq_ff] | rw [Bool.not_true] | rw [w_pick_b] | rw [if_pos rfl])
      exact fin (by omega)
    · rw [w_eql, decide_eq_false c]
      repeat (first | rw [outP_val] | rw [guardP_true] | rw [guardP_false] | rw [boolIs_bool] | rw [boolIs_undef] | rw [beq_tt] | rw [beq_ff] | rw [Bool.not_false] | rw [w_pick_b] | rw [if_neg Bool.false_ne_true] | rw [w_eql])
      by_cases c2 : n / pw 0 = -1
      · rw [decide_eq_true c2]
        repeat (first | rw [outP_val] | rw [guardP_true] | rw [ln] | rw [boolIs_bool] | rw [beq_tt] | rw [w_pick_b] | rw [if_pos rfl] | rw [w_gtr])
        rw [show decide ((0 : Int) < ((0 : Nat) : Int)) = false from rfl]
        repeat (first | rw [outP_val] | rw [guardP_true] | rw [guardP_false] | rw [condP_false] | rw [w_pick_b] | rw [if_neg Bool.false_ne_true])
        exact go (by omega)
      · rw [decide_eq_false c2]
        repeat (first | rw [outP_val] | rw [guardP_true] | rw [guardP_false] | rw [ln] | rw [condP_false] | rw [boolIs_bool] | rw [beq_tt] | rw [w_pick_b] | rw [if_neg Bool.false_ne_true])
        exact go (by omega)
  | succ i =>
    have e1 : ((i + 1 : Nat) : Int) - 1 = (i : Int) := by omega
    obtain ⟨q, a1, _, a3⟩ := o.is.at (j := i) (by rw [bytes_len]; omega)
    have a4 : (bytesB (i + 1) n)[i]'(by rw [bytes_len]; omega) = n / pw i % 256 := by
      have := bytes_get (i + 1) n i (by omega)
      rw [List.getElem?_eq_getElem (by rw [bytes_len]; omega)] at this
      exact Option.some.inj this
    rw [a4] at a3
    have su : ∀ K : AV → AH → Prop, outP CC G (w_int .sub G (.int .i64 ((i + 1 : Nat) : Int)) (.int .i64 1)) K = K (.int .i64 (i : Int)) G := fun K => by rw [w_sub_in (by omega) (by omega), outP_val, e1]
    rw [Nat.add_sub_cancel] at key
    have z0 : decide (((i + 1 : Nat) : Int) = 0) = false := decide_eq_false (by omega)
    have z1 : decide ((0 : Int) < ((i + 1 : Nat) : Int)) = true := decide_eq_true (by omega)
    by_cases c : n / pw (i + 1) = 0
    · rw [w_eql, decide_eq_true c]
      repeat (first | rw [outP_val] | rw [guardP_true] | rw [ln] | rw [z0] | rw [su] | rw [a1] | rw [a3] | rw [boolIs_bool] | rw [beq_tt] | rw [beq_ff] | rw [Bool.not_false] | rw [w_pick_b] | rw [if_pos rfl] | rw [if_neg Bool.false_ne_true] | rw [w_load_c] | rw [vO_some] | rw [w_lss] | rw [w_eql])
      by_cases c2 : n / pw i % 256 < 128
      · rw [decide_eq_true c2]
        repeat (first | rw [outP_val] | rw [guardP_false] | rw [condP_true] | rw [boolIs_undef] | rw [Bool.not_true] | rw [w_pick_b] | rw [if_pos rfl])
        exact fin (by omega)
      · rw [decide_eq_false c2]
        repeat (first | rw [outP_val] | rw [guardP_true] | rw [boolIs_bool] | rw [beq_tt] | rw [Bool.not_false] | rw [w_eql])
        rw [decide_eq_false (show ¬ n / pw (i + 1) = -1 by omega)]
        repeat (first | rw [outP_val] | rw [guardP_true] | rw [guardP_false] | rw [ln] | rw [condP_false] | rw [boolIs_bool] | rw [beq_tt] | rw [w_pick_b] | rw [if_neg Bool.false_ne_true])
        exact go (by omega)
    · rw [w_eql, decide_eq_false c]
      repeat (first | rw [outP_val] | rw [guardP_true] | rw [guardP_false] | rw [boolIs_bool] | rw [boolIs_undef] | rw [beq_tt] | rw [beq_ff] | rw [Bool.not_false] | rw [w_pick_b] | rw [if_neg Bool.false_ne_true] | rw [w_eql])
      by_cases c2 : n / pw (i + 1) = -1
      · rw [decide_eq_true c2]
        repeat (first | rw [outP_val] | rw [guardP_true] | rw [ln] | rw [z1] | rw [su] | rw [a1] | rw [a3] | rw [boolIs_bool] | rw [beq_tt] | rw [w_pick_b] | rw [if_pos rfl] | rw [if_neg Bool.false_ne_true] | rw [w_load_c] | rw [vO_some] | rw [w_gtr] | rw [w_geq] | rw [w_cint])
        by_cases c3 : 128 ≤ n / pw i % 256
        · rw [decide_eq_true c3]
          repeat rw [condP_true]
          have f := fin (by omega)
          rw [ln, outP_val, w_cint, outP_val] at f
          exact f
        · rw [decide_eq_false c3]
          repeat rw [condP_false]
          exact go (by omega)
      · rw [decide_eq_false c2]
        repeat (first | rw [outP_val] | rw [guardP_true] | rw [guardP_false] | rw [ln] | rw [condP_false] | rw [boolIs_bool] | rw [beq_tt] | rw [w_pick_b] | rw [if_neg Bool.false_ne_true])
        exact go (by omega)
theorem encs_le' {V : List Int} (hV : In32 V) (j : Nat) : ((V.take j).flatMap encZ).length ≤ 9 * V.length := by
  have := encs_le (V := V.take j) fun y hy => hV y (List.mem_of_mem_take hy)
  rw [List.length_take] at this; omega
theorem rPut_wp {b : Nat} {s : AV} {V : List Int} (h : Is .i32 H b s V) (hV : In32 V) (hl : V.length ≤ 100) (K : AV → AH → Prop) (hK : ∀ H' s B, Ext [] H H' → H.next ≤ B → Os 5 .u8 H' B s (encV V) → K s H') : CC.call 53 [s] H K := by
  refine m_fieldfareref1_PutVec_ok _ _ _ ?_
  unfold m_fieldfareref1_PutVec m_fieldfareref1_PutVect
  rw [h.len vec_sl, outP_val, outP_enter]
  refine rIntL_wp ⟨by omega, by omega⟩ _ fun G0 s0 B0 x0 hB0 o0 => ?_
  unfold m_fieldfareref1_PutVectth
  rw [Is.len (Sl.mono h x0 (by simp)) vec_sl, outP_val]
  unfold m_fieldfareref1_PutVectthtb
  refine loopP_rule (I := fun t G => ∃ (j : Nat) (r : AV) (B : Nat), t = (s, r, .int .i64 V.length, .int .i64 j) ∧ j ≤ V.length ∧ Ext [] H G ∧ H.next ≤ B ∧ Os 5 .u8 G B r (encZ V.length ++ (V.take j).flatMap encZ)) (μ := fun t _ => match t.2.2.2 with | .int _ z => V.length - z.toNat | _ => 0) ?_ ⟨0, s0, B0, rfl, Nat.zero_le _, x0, hB0, by simpa using o0⟩
  rintro t G ⟨j, r, B, rfl, hj, x, hB, o⟩ rec hrec
  unfold m_fieldfareref1_PutVectthtbl
  rw [w_lss, outP_val]
  by_cases cj : j < V.length
  · obtain ⟨q, a1, _, a3⟩ := Is.at (Sl.mono h x (by simp)) cj
    have hx := hV _ (List.getElem_mem cj)
    rw [decide_eq_true (by omega), condP_true, a1, outP_val, w_load_c, a3, vO_some, outP_val, w_cint, outP_val, wrap64_32 hx, outP_enter]
    refine rIntL_wp ⟨by omega, by omega⟩ _ fun G1 s1 B1 x1 hB1 o1 => ?_
    have n1 := x.next
    have n2 := x1.next
    have l1 := encs_le' hV j
    have l2 := encZ_le (n := V[j]) ⟨by omega, by omega⟩
    have l3 := encZ_le (n := (V.length : Int)) ⟨by omega, by omega⟩
    obtain ⟨s', H', B', e1, e2, e3, e4⟩ := (Own.mono o x1 (by simp)).append (by_ := 1) o1.is (by omega) (by simp only [List.length_map, List.length_append]; omega)
    refine st e1 ?_
    rw [w_add_in (by omega) (by omega), outP_val]
    refine hrec _ _ ⟨j + 1, s', B', by rfl, by omega, ((x.trans x1).mono (m' := [B]) (by simp)).trans e2 |>.mono fun b hb hlt => (by simp at hb; omega), by omega, ?_⟩ ?_
    · rw [List.take_succ_eq_append_getElem cj, List.flatMap_append]
      show Own _ _ _ _ _ _
      simpa using e4
    · show V.length - ((j : Int) + 1).toNat < V.length - (j : Int).toNat
      omega
  · rw [decide_eq_false (by omega), condP_false]
    rw [List.take_of_length_le (by omega)] at o
    exact hK _ _ B x hB o
theorem rEq_wp {b b' : Nat} {s s' : AV} {L M : List Int} (h : Is .i32 H b s L) (h' : Is .i32 H b' s' M) (hL : L.length ≤ 9223372036854775807) (K : AV → AH → Prop) (hK : K (.bool (decide (L = M))) H) : CC.call 61 [s, s'] H K := by
  refine m_fieldfareref1_EqVec_ok _ _ _ _ ?_
  unfold m_fieldfareref1_EqVec m_fieldfareref1_EqVect
  rw [h.len vec_sl, outP_val, h'.len vec_sl, outP_val, w_neq, outP_val]
  by_cases c : L.length = M.length
  · rw [decide_eq_true (by omega), Bool.not_true, condP_false]
    unfold m_fieldfareref1_EqVectth m_fieldfareref1_EqVectthtb
    rw [h.len vec_sl, outP_val]
    refine loopP_rule (I := fun t G => ∃ j : Nat, t = (s, s', .int .i64 L.length, .int .i64 j) ∧ j ≤ L.length ∧ G = H ∧ L.take j = M.take j) (μ := fun t _ => match t.2.2.2 with | .int _ z => L.length - z.toNat | _ => 0) ?_ ⟨0, rfl, Nat.zero_le _, rfl, rfl⟩
    rintro t G ⟨j, rfl, hj, rfl, eq⟩ rec hrec
    unfold m_fieldfareref1_EqVectthtbl
    rw [w_lss, outP_val]
    by_cases cj : j < L.length
    · obtain ⟨q, a1, _, a3⟩ := h.at cj
      obtain ⟨q', a1', _, a3'⟩ := h'.at (j := j) (by omega)
      rw [decide_eq_true (by omega), condP_true, a1, outP_val, w_load_c, a3, vO_some, outP_val, a1', outP_val, w_load_c, a3', vO_some, outP_val, w_neq, outP_val]
      by_cases cv : L[j] = M[j]
      · rw [decide_eq_true cv, Bool.not_true, condP_false, w_add_in (by omega) (by omega), outP_val]
        refine hrec _ _ ⟨j + 1, by rfl, by omega, rfl, ?_⟩ ?_
        · rw [List.take_succ_eq_append_getElem cj, List.take_succ_eq_append_getElem (by omega), eq, cv]
        · show L.length - ((j : Int) + 1).toNat < L.length - (j : Int).toNat
          omega
      · rw [decide_eq_false cv, Bool.not_false, condP_true]
        rw [decide_eq_false (fun q => cv (by subst q; rfl))] at hK
        exact hK
    · rw [decide_eq_false (by omega), condP_false]
      rw [List.take_of_length_le (by omega), List.take_of_length_le (by omega)] at eq
      rw [decide_eq_true eq] at hK
      exact hK
  · rw [decide_eq_false (by omega), Bool.not_false, condP_true]
    rw [decide_eq_false (fun q => c (by rw [q]))] at hK
    exact hK
end
end Go.Ab
