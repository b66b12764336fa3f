/- The document's nearest one and order. -/
import Derived.Test.YtjpjmeidpjjgdaaGreatDoorPutB
import Derived.Test.YtjpjmeidpjjgdaaGreatDoorNear
namespace Go.Ab
noncomputable section
open Go.Proofs
set_option maxRecDepth 10000
variable {H H' : AH}

theorem hitsM_uni (M : List (List Int)) (V : List Int) (n : Nat) : Uni (hitsM M V n) := by
  show ((hitsM M V n).map fun x => x.1).Nodup
  unfold hitsM
  rw [List.map_map]
  exact List.pairwise_map.2 (List.Pairwise.imp (fun {a b} h q => h (by simp only [Function.comp_apply] at q; omega)) List.nodup_range)
theorem best_order (M : List (List Int)) (V : List Int) : bestL M.length (hitsM M V M.length) = orderH M V := by
  have hu := hitsM_uni M V M.length
  rw [bestL_ord hu, List.take_of_length_le (by rw [(ordL_perm _).length_eq, hitsM_len]; exact Nat.le_refl _)]
  refine sortH_uni (ordL_perm _) ((ordL_sorted hu).imp fun {a b} h => ?_)
  rw [lessB_iff] at h
  rw [leH_iff]; omega
theorem bestL_le (k : Nat) (L : List (Int × Int)) : (bestL k L).length ≤ L.length := by have := foldl_len k L []; simpa [bestL] using this
theorem bestL_k (k : Nat) : ∀ (L A : List (Int × Int)), A.length ≤ k → (L.foldl (fun a h => (putL k a h).1) A).length ≤ k
  | [], _, h => h
  | x :: L, A, h => bestL_k k L _ (put_len k A x h)
theorem rNear_wp {b bv : Nat} {s v : AV} {Z : List Vq} {V : List Int} (h : Vs H b s Z) (hv : Is .i32 H bv v V) (hV : In32 V) (K : AV → AH → Prop)
    (hK : K (.int .i64 (nearM (vals Z) V)) H) : CC.call 30 [s, v] H K := by
  refine m_fieldfareref1_Nearest_ok _ _ _ _ ?_
  unfold m_fieldfareref1_Nearest m_fieldfareref1_Nearestt m_fieldfareref1_Nearesttth
  have hL := h.len
  have lv : (vals Z).length = Z.length := by simp
  rw [vrow_len h.sl, outP_val]
  unfold m_fieldfareref1_Nearesttthtb
  have sc : ∀ (i : Nat) (hi : i < Z.length) (K' : AV → AH → Prop), K' (.int .i64 (scF (vals Z) V i)) H → CC.call 60 [.int .i64 1, Z[i].1, v] H K' := fun i hi K' hk' => by
    have hm := List.getElem_mem hi
    refine rScore_wp (h.el _ hm).is hv (h.el _ hm).in32 hV (.inl (by have := h.short _ hm; omega)) 1 _ ?_
    have e : scF (vals Z) V i = scoreZ 1 Z[i].2.2 V := by unfold scF; rw [vals_at hi]
    rw [← e]; exact hk'
  refine loopP_rule (I := fun t G => ∃ (j : Nat) (x : Int), t = (s, v, .int .i64 x, .int .i64 Z.length, .int .i64 j) ∧ j ≤ Z.length ∧ G = H ∧ (j = 0 ∧ x = -1 ∨ ∃ u : Nat, u < j ∧ x = u ∧ ∀ i : Nat, i < j → scF (vals Z) V u < scF (vals Z) V i ∨ scF (vals Z) V u = scF (vals Z) V i ∧ u ≤ i))
    (μ := fun t _ => match t.2.2.2.2 with | .int _ z => Z.length - z.toNat | _ => 0) ?_ ⟨0, -1, rfl, Nat.zero_le _, rfl, .inl ⟨rfl, rfl⟩⟩
  rintro t G ⟨j, x, rfl, hj, rfl, hx⟩ rec hrec
  unfold m_fieldfareref1_Nearesttthtbl
  dsimp only
  rw [w_lss, outP_val]
  by_cases cj : j < Z.length
  · have dec : Z.length - ((j : Int) + 1).toNat < Z.length - (j : Int).toNat := by omega
    rw [decide_eq_true (by omega), condP_true, w_lss]
    rcases hx with ⟨rfl, rfl⟩ | ⟨u, hu, rfl, hle⟩
    · rw [show decide ((-1 : Int) < 0) = true from rfl]
      repeat (first | rw [outP_val] | rw [guardP_true] | rw [guardP_false] | rw [condP_true] | rw [condP_false] | rw [boolIs_bool] | rw [boolIs_undef] | rw [beq_tt] | rw [beq_ff] | rw [Bool.not_true] | rw [Bool.not_false] | rw [outP_skip] | rw [w_pick_b] | rw [if_pos rfl] | rw [if_neg Bool.false_ne_true] | rw [w_fieldAddr_ptr] | rw [w_nil_ptr] | rw [Nat.zero_add] | rw [w_load_c] | rw [w_load_n] | rw [vO_some] | rw [w_store_c] | rw [w_not] | rw [w_lss] | rw [w_leq] | rw [w_gtr] | rw [w_geq] | rw [w_eql] | rw [w_neq] | rw [w_cint] | rw [w_min2_int] | rw [w_max2_int] | rw [w_sub_in (by omega) (by omega)] | rw [w_mul_in (by omega) (by omega)] | rw [outP_enter])
      rw [w_add_in (by omega) (by omega), outP_val]
      refine hrec _ _ ⟨1, 0, by rfl, by omega, rfl, .inr ⟨0, by omega, rfl, fun i hi => ?_⟩⟩ dec
      obtain rfl : i = 0 := by omega
      omega
    · obtain ⟨p, a1, _, a3⟩ := vrow_at h.sl cj
      obtain ⟨q, d1, _, d3⟩ := vrow_at h.sl (j := u) (by omega)
      have sk := Sl.slk (h.el _ (List.getElem_mem (show u < Z.length by omega))).is
      rw [decide_eq_false (by omega)]
      repeat (first | rw [outP_val] | rw [guardP_true] | rw [guardP_false] | rw [condP_true] | rw [a1] | rw [a3] | rw [d1] | rw [d3] | rw [condP_false] | rw [boolIs_bool] | rw [boolIs_undef] | rw [beq_tt] | rw [beq_ff] | rw [Bool.not_true] | rw [Bool.not_false] | rw [outP_skip] | rw [w_pick_b] | rw [if_pos rfl] | rw [if_neg Bool.false_ne_true] | rw [w_fieldAddr_ptr] | rw [w_nil_ptr] | rw [Nat.zero_add] | rw [w_load_c] | rw [w_load_n] | rw [vO_some] | rw [w_store_c] | rw [w_not] | rw [w_lss] | rw [w_leq] | rw [w_gtr] | rw [w_geq] | rw [w_eql] | rw [w_neq] | rw [w_cint] | rw [w_min2_int] | rw [w_max2_int] | rw [w_add_in (by omega) (by omega)] | rw [w_sub_in (by omega) (by omega)] | rw [w_mul_in (by omega) (by omega)])
      rw [outP_enter]
      refine sc j cj _ ?_
      rw [w_load_c, d3, vO_some, reC_val, beq_slk sk, ckP_true]
      repeat (first | rw [outP_val] | rw [guardP_true] | rw [guardP_false] | rw [condP_true] | rw [condP_false] | rw [boolIs_bool] | rw [boolIs_undef] | rw [beq_tt] | rw [beq_ff] | rw [Bool.not_true] | rw [Bool.not_false] | rw [outP_skip] | rw [w_pick_b] | rw [if_pos rfl] | rw [if_neg Bool.false_ne_true] | rw [w_fieldAddr_ptr] | rw [w_nil_ptr] | rw [Nat.zero_add] | rw [w_load_c] | rw [w_load_n] | rw [vO_some] | rw [w_store_c] | rw [w_not] | rw [w_lss] | rw [w_leq] | rw [w_gtr] | rw [w_geq] | rw [w_eql] | rw [w_neq] | rw [w_cint] | rw [w_min2_int] | rw [w_max2_int] | rw [w_add_in (by omega) (by omega)] | rw [w_sub_in (by omega) (by omega)] | rw [w_mul_in (by omega) (by omega)])
      rw [outP_enter]
      refine sc u (by omega) _ ?_
      repeat (first | rw [outP_val] | rw [guardP_true] | rw [guardP_false] | rw [condP_true] | rw [condP_false] | rw [boolIs_bool] | rw [boolIs_undef] | rw [beq_tt] | rw [beq_ff] | rw [Bool.not_true] | rw [Bool.not_false] | rw [outP_skip] | rw [w_pick_b] | rw [if_pos rfl] | rw [if_neg Bool.false_ne_true] | rw [w_fieldAddr_ptr] | rw [w_nil_ptr] | rw [Nat.zero_add] | rw [w_load_c] | rw [w_load_n] | rw [vO_some] | rw [w_store_c] | rw [w_not] | rw [w_leq] | rw [w_gtr] | rw [w_geq] | rw [w_eql] | rw [w_neq] | rw [w_cint] | rw [w_min2_int] | rw [w_max2_int] | rw [w_add_in (by omega) (by omega)] | rw [w_sub_in (by omega) (by omega)] | rw [w_mul_in (by omega) (by omega)] | rw [outP_enter])
      rw [w_lss]
      by_cases c : scF (vals Z) V j < scF (vals Z) V u
      · rw [decide_eq_true c]
        repeat (first | rw [outP_val] | rw [guardP_true] | rw [guardP_false] | rw [condP_true] | rw [condP_false] | rw [boolIs_bool] | rw [boolIs_undef] | rw [beq_tt] | rw [beq_ff] | rw [Bool.not_true] | rw [Bool.not_false] | rw [outP_skip] | rw [w_pick_b] | rw [if_pos rfl] | rw [if_neg Bool.false_ne_true] | rw [w_fieldAddr_ptr] | rw [w_nil_ptr] | rw [Nat.zero_add] | rw [w_load_c] | rw [w_load_n] | rw [vO_some] | rw [w_store_c] | rw [w_not] | rw [w_lss] | rw [w_leq] | rw [w_gtr] | rw [w_geq] | rw [w_eql] | rw [w_neq] | rw [w_cint] | rw [w_min2_int] | rw [w_max2_int] | rw [w_sub_in (by omega) (by omega)] | rw [w_mul_in (by omega) (by omega)] | rw [outP_enter])
        rw [w_add_in (by omega) (by omega), outP_val]
        refine hrec _ _ ⟨j + 1, j, by rfl, by omega, rfl, .inr ⟨j, by omega, rfl, fun i hi => ?_⟩⟩ dec
        rcases Nat.lt_or_ge i j with r | r
        · have := hle i r; omega
        · have : i = j := by omega
          subst this; omega
      · rw [decide_eq_false c]
        repeat (first | rw [outP_val] | rw [guardP_true] | rw [guardP_false] | rw [condP_true] | rw [condP_false] | rw [boolIs_bool] | rw [boolIs_undef] | rw [beq_tt] | rw [beq_ff] | rw [Bool.not_true] | rw [Bool.not_false] | rw [outP_skip] | rw [w_pick_b] | rw [if_pos rfl] | rw [if_neg Bool.false_ne_true] | rw [w_fieldAddr_ptr] | rw [w_nil_ptr] | rw [Nat.zero_add] | rw [w_load_c] | rw [w_load_n] | rw [vO_some] | rw [w_store_c] | rw [w_not] | rw [w_lss] | rw [w_leq] | rw [w_gtr] | rw [w_geq] | rw [w_eql] | rw [w_neq] | rw [w_cint] | rw [w_min2_int] | rw [w_max2_int] | rw [w_sub_in (by omega) (by omega)] | rw [w_mul_in (by omega) (by omega)] | rw [outP_enter])
        rw [w_add_in (by omega) (by omega), outP_val]
        refine hrec _ _ ⟨j + 1, u, by rfl, by omega, rfl, .inr ⟨u, by omega, rfl, fun i hi => ?_⟩⟩ dec
        rcases Nat.lt_or_ge i j with r | r
        · exact hle i r
        · have : i = j := by omega
          subst this; omega
  · rw [decide_eq_false (by omega), condP_false]
    obtain rfl : j = Z.length := by omega
    have e : nearM (vals Z) V = x := by
      rcases hx with ⟨h0, rfl⟩ | ⟨u, hu, rfl, hle⟩
      · rw [List.length_eq_zero_iff.1 h0]; exact near_none V
      · obtain ⟨k, hk, ek, kle⟩ := near_le (M := vals Z) (V := V) (by omega)
        rw [lv] at hk
        have h1 := hle k hk
        have h2 := kle u (by omega)
        have : u = k := by omega
        subst this; exact ek
    rw [← e]; exact hK
theorem rOrder_wp {b bv : Nat} {s v : AV} {Z : List Vq} {V : List Int} (h : Vs H b s Z) (hZ : Z.length ≤ 50) (hv : Is .i32 H bv v V) (hV : In32 V) (K : AV → AH → Prop)
    (hK : ∀ H' s' B, Ext [] H H' → H.next ≤ B → Os 3 .i64 H' B s' (orderM (vals Z) V) → K s' H') : CC.call 28 [s, v] H K := by
  refine m_fieldfareref1_Order_ok _ _ _ _ ?_
  unfold m_fieldfareref1_Order m_fieldfareref1_Ordert m_fieldfareref1_Ordertth
  have hL := h.len
  have lv : (vals Z).length = Z.length := by simp
  rw [vrow_len h.sl, outP_val]
  unfold m_fieldfareref1_Ordertthtb
  refine loopP_rule (I := fun t G => ∃ (j B : Nat) (r : AV), t = (s, v, r, .int .i64 Z.length, .int .i64 j) ∧ j ≤ Z.length ∧ Ext [] H G ∧ Hs G B r (bestL Z.length (hitsM (vals Z) V j)))
    (μ := fun t _ => match t.2.2.2.2 with | .int _ z => Z.length - z.toNat | _ => 0) ?_ ⟨0, 0, _, rfl, Nat.zero_le _, Ext.refl _ _, ⟨.inl ⟨.inl rfl, rfl⟩⟩⟩
  rintro t G ⟨j, B, r, rfl, hj, x, o⟩ rec hrec
  unfold m_fieldfareref1_Ordertthtbl
  dsimp only
  rw [w_lss, outP_val]
  by_cases cj : j < Z.length
  · obtain ⟨p, a1, _, a3⟩ := vrow_at (h.mono0 x).sl cj
    have hm := List.getElem_mem cj
    have he := (h.mono0 x).el _ hm
    have hs := h.short _ hm
    have bl := bestL_le Z.length (hitsM (vals Z) V j)
    rw [hitsM_len] at bl
    rw [decide_eq_true (by omega), condP_true, vrow_len (h.mono0 x).sl, outP_val, a1, outP_val, w_load_c, a3, vO_some, outP_val, outP_enter]
    refine rScore_wp he.is (Sl.mono hv x (by simp)) he.in32 hV (.inl (by omega)) 1 _ ?_
    have esc : scoreZ 1 Z[j].2.2 V = scF (vals Z) V j := by unfold scF; rw [vals_at cj]
    rw [esc, hit_buildO, outP_val, outP_enter]
    refine putBest_wp o (by omega) (bestL_k Z.length _ [] (by simp)) (bestL_sorted _ _) ((j : Int), scF (vals Z) V j) _ fun G2 s2 B2 x2 _ o2 => ?_
    rw [← bestL_snoc, ← hitsM_succ] at o2
    rw [w_ext0, outP_val, w_ext1, outP_val, w_add_in (by omega) (by omega), outP_val]
    refine hrec _ _ ⟨j + 1, B2, s2, by rfl, by omega, x.trans x2, o2⟩ ?_
    show Z.length - ((j : Int) + 1).toNat < Z.length - (j : Int).toNat
    omega
  · rw [decide_eq_false (by omega), condP_false]
    obtain rfl : j = Z.length := by omega
    have eo := best_order (vals Z) V
    rw [lv] at eo
    rw [eo] at o
    have lo : (orderH (vals Z) V).length = Z.length := by rw [orderH_len, lv]
    unfold m_fieldfareref1_Orderttt m_fieldfareref1_Ordertttth
    have hln := Hs.len o
    rw [lo] at hln
    rw [hln, outP_val]
    unfold m_fieldfareref1_Ordertttthtb
    refine loopP_rule (I := fun t G2 => ∃ (k B' : Nat) (r' : AV), t = (r, r', .int .i64 Z.length, .int .i64 k) ∧ k ≤ Z.length ∧ Ext [] G G2 ∧ G.next ≤ B' ∧ Os 3 .i64 G2 B' r' (((orderH (vals Z) V).take k).map fun x => x.1))
      (μ := fun t _ => match t.2.2.2 with | .int _ z => Z.length - z.toNat | _ => 0) ?_ ⟨0, G.next, _, rfl, Nat.zero_le _, Ext.refl _ _, Nat.le_refl _, os_nil _ _ _⟩
    rintro t G3 ⟨k, B', r', rfl, hk, x3, hB, o3⟩ rec3 hrec3
    unfold m_fieldfareref1_Ordertttthtbl
    dsimp only
    rw [w_lss, outP_val]
    by_cases ck : k < Z.length
    · obtain ⟨q, a1, _, a3, _⟩ := Hs.at1 (o.mono x3 (by simp)) (j := k) (by rw [lo]; exact ck)
      have n3 := x3.next
      rw [decide_eq_true (by omega), condP_true, a1, outP_val, w_fieldAddr_ptr, outP_val, w_load_c, Nat.add_zero, a3, vO_some, outP_val]
      refine push_num int_elO (by omega) o3 (by rw [List.length_map, List.length_take]; omega) _ _ fun G5 s5 B5 x5 hB5 o5 => ?_
      rw [w_add_in (by omega) (by omega), outP_val]
      refine hrec3 _ _ ⟨k + 1, B5, s5, by rfl, by omega, (x3.mono (m' := [B']) (by simp)).trans x5 |>.mono fun b hb hlt => (by simp at hb; omega), by omega, ?_⟩ ?_
      · rw [List.take_succ_eq_append_getElem (by rw [lo]; exact ck), List.map_append]; exact o5
      · show Z.length - ((k : Int) + 1).toNat < Z.length - (k : Int).toNat
        omega
    · rw [decide_eq_false (by omega), condP_false]
      rw [List.take_of_length_le (by omega)] at o3
      have n2' := x.next
      exact hK _ _ B' (x.trans x3) (by omega) o3
end
end Go.Ab
