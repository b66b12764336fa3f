/- BestMerge: what it does, at any number, any scores. -/
import Derived.Test.YtoafnnphjbdedaaGreatDoorBestUp
import Derived.Test.YtoafnnphjbdedaaGreatDoorM7
namespace Go.Ab
noncomputable section
open Go.Proofs
set_option maxRecDepth 10000
variable {H H' : AH}

theorem hitsOf_uni2 (m : Int) (L M : List Int) (i j : Nat) (hi : i ≤ 20) : Uni (hitsOf 0 m L i ++ hitsOf 100 m M j) := by
  show ((hitsOf 0 m L i ++ hitsOf 100 m M j).map fun x => x.1).Nodup
  rw [List.map_append]
  refine List.nodup_append.2 ⟨hitsOf_uni _ _ _ _, hitsOf_uni _ _ _ _, fun a ha b hb => ?_⟩
  obtain ⟨x, hx, rfl⟩ := List.mem_map.1 ha
  obtain ⟨y, hy, rfl⟩ := List.mem_map.1 hb
  obtain ⟨u, hu, rfl⟩ := List.mem_map.1 hx
  obtain ⟨v, hv, rfl⟩ := List.mem_map.1 hy
  have := List.mem_range.1 hu
  simp only
  omega

theorem bestMerge_wp {b1 b2 : Nat} {s1 s2 : AV} {L M : List Int} (k : Int) (h1 : Is .i64 H b1 s1 L) (h2 : Is .i64 H b2 s2 M) (hl : Laid H) (K : AV → AH → Prop) (hK : ∀ H', Ext [] H H' → K (.bool true) H') : CC.call 7 [.int .i64 k, s1, s2] H K := by
  refine m_fieldfarelaw7_BestMerge_ok _ _ _ _ _ ?_
  unfold m_fieldfarelaw7_BestMerge m_fieldfarelaw7_BestMerget
  rw [outP_enter]
  refine begun_wp hl _ ?_
  unfold m_fieldfarelaw7_BestMergett m_fieldfarelaw7_BestMergettt
  have q10 : (10 : Int) ≠ 0 := by decide
  obtain ⟨m1, m2, m3, m4⟩ := modn k (m := 10) (by decide)
  simp (disch := first | omega | exact one_int _ _ | exact one_slice _ _ _ _ | exact one_ptr _ | assumption | ((repeat (first | rw [next_new] | rw [AH.next_put] | rw [next_more])) <;> omega) | fail) only [outP_val, 
      w_not, w_add, wrap64_in, 
      condP_false, Bool.not_true, 
      Bool.not_true, condP_false, w_rem _ _ _ q10]
  generalize (k.tmod 10 + 10).tmod 10 = k' at *
  unfold m_fieldfarelaw7_BestMergetttt m_fieldfarelaw7_BestMergettttth m_fieldfarelaw7_BestMergettttthtb
  have hlen1 := h1.len i64_sl
  have hlen2 := h2.len i64_sl
  have q50 : (50 : Int) ≠ 0 := by decide
  refine loopP_rule (I := fun t G => ∃ (j B : Nat) (s8 : AV), t = (.int .i64 k', s1, s2, s8, .slice none 0 0 true, .int .i64 j) ∧ j ≤ L.length ∧ j ≤ 20 ∧ Ext [] H G ∧ H.next ≤ B ∧ Own G 37 2 B s8 ((hitsOf 0 50 L j).map hitL)) (μ := fun t _ => match t.2.2.2.2.2 with | .int _ z => 20 - z.toNat | _ => 0) ?_ ⟨0, H.next, .slice none 0 0 true, rfl, Nat.zero_le _, Nat.zero_le _, Ext.refl _ _, Nat.le_refl _, Own.nil _ _ _ _⟩
  rintro t G ⟨j, B, s8, rfl, hj, hj20, e1, hB, o8⟩ rec hrec
  unfold m_fieldfarelaw7_BestMergettttthtbl
  have n1 := e1.next
  have tail : m_fieldfarelaw7_BestMergetttttth K (.int .i64 k') s2 s8 (.slice none 0 0 true) G := by
    unfold m_fieldfarelaw7_BestMergetttttth m_fieldfarelaw7_BestMergetttttthtb
    refine loopP_rule (I := fun t G2 => ∃ (i B2 : Nat) (s9 : AV), t = (.int .i64 k', s2, s8, s9, .int .i64 i) ∧ i ≤ M.length ∧ i ≤ 20 ∧ Ext [] G G2 ∧ G.next ≤ B2 ∧ Own G2 37 2 B2 s9 ((hitsOf 100 50 M i).map hitL)) (μ := fun t _ => match t.2.2.2.2 with | .int _ z => 20 - z.toNat | _ => 0) ?_ ⟨0, G.next, .slice none 0 0 true, rfl, Nat.zero_le _, Nat.zero_le _, Ext.refl _ _, Nat.le_refl _, Own.nil _ _ _ _⟩
    rintro t G2 ⟨i, B2, s9, rfl, hi, hi20, e2, hB2, o9⟩ rec2 hrec2
    unfold m_fieldfarelaw7_BestMergetttttthtbl
    have n2 := e2.next
    have last : outP CC G2 (w_append 37 2 16 G2 (.slice none 0 0 true) s8 none) (fun v14 H14 =>
        outP CC H14 (w_append 37 2 16 H14 v14 s9 none) fun v15 H15 =>
        CC.call 25 [.int .i64 k', v15] H15 fun v16 H16 =>
        CC.call 25 [.int .i64 k', s8] H16 fun v17 H17 =>
        CC.call 25 [.int .i64 k', s9] H17 fun v18 H18 =>
        outP CC H18 (w_append 37 2 16 H18 v17 v18 none) fun v19 H19 =>
        CC.call 25 [.int .i64 k', v19] H19 fun v20 H20 =>
        CC.call 23 [v16, v20] H20 fun v21 H21 => K v21 H21) := by
      have hu := hitsOf_uni2 50 L M j i hj20
      have lX := hitsOf_len 0 50 L j
      have lY := hitsOf_len 100 50 M i
      generalize hitsOf 0 50 L j = X at *
      generalize hitsOf 100 50 M i = Y at *
      have hs8 : Hs G2 B s8 X := Sl.mono o8.sl e2 (by simp)
      have low8 := o8.low
      refine push_hits (L := []) (B := G2.next) (Own.nil _ _ _ _) hs8 (by simp; omega) _ fun G3 s14 B3 x3 hB3 o3 => ?_
      have hs8' : Hs G3 B s8 X := Sl.mono' hs8 x3 (fun q => by
        rcases low8 with r | r
        · simp at q; omega
        · exact r)
      have hs9 : Hs G3 B2 s9 Y := Sl.mono' o9.sl x3 (fun q => by
        rcases o9.low with r | r
        · simp at q; omega
        · exact r)
      have n3 := x3.next
      refine push_hits o3 hs9 (by simp; omega) _ fun G4 s15 B4 x4 hB4 o4 => ?_
      rw [List.nil_append] at o4
      have n4 := x4.next
      have hs8'' : Hs G4 B s8 X := Sl.mono' hs8' x4 (fun q => by
        rcases low8 with r | r
        · simp at q; omega
        · exact r)
      have hs9' : Hs G4 B2 s9 Y := Sl.mono' hs9 x4 (fun q => by
        rcases o9.low with r | r
        · simp at q; omega
        · exact r)
      refine of_wp o4.sl (by rw [List.length_append]; omega) k' _ fun G5 s16 B5 x5 hB5 o5 => ?_
      have n5 := x5.next
      refine of_wp (Sl.mono hs8'' x5 (by simp)) (by omega) k' _ fun G6 s17 B6 x6 hB6 o6 => ?_
      have n6 := x6.next
      refine of_wp (Sl.mono (Sl.mono hs9' x5 (by simp)) x6 (by simp)) (by omega) k' _ fun G7 s18 B7 x7 hB7 o7 => ?_
      have n7 := x7.next
      have lb := bestL_len k'.toNat X
      have lb' := bestL_len k'.toNat Y
      have lb2 := bestL_len k'.toNat (X ++ Y)
      refine push_hits (o6.mono x7 (by simp)) o7.sl (by omega) _ fun G8 s19 B8 x8 hB8 o8' => ?_
      have n8 := x8.next
      refine of_wp o8'.sl (by rw [List.length_append]; omega) k' _ fun G9 s20 B9 x9 hB9 o9' => ?_
      rw [← best_merge hu] at o9'
      have low5 := o5.low
      have hs5 : Hs G7 B5 s16 (bestL k'.toNat (X ++ Y)) := Sl.mono (Sl.mono o5.sl x6 (by simp)) x7 (by simp)
      have hs5' : Hs G9 B5 s16 (bestL k'.toNat (X ++ Y)) := Sl.mono (Sl.mono' hs5 x8 (fun q => by
        rcases low5 with r | r
        · simp at q; omega
        · exact r)) x9 (by simp)
      refine hits_wp hs5' o9'.sl (by rw [List.length_append] at lb2; omega) _ ?_
      rw [decide_eq_true rfl]
      refine hK _ ?_
      have e12 := e1.trans e2
      refine (((e12.mono (m' := [G2.next, B3, B6]) (by simp)).trans ((x3.mono (by simp)).trans (x4.mono (by simp)))).trans ((((x5.trans x6).trans x7).mono (by simp)).trans ((x8.mono (by simp)).trans (x9.mono (by simp))))).mono fun b hb hlt => ?_
      simp at hb; omega
    by_cases c1 : i < M.length
    · by_cases c2 : i < 20
      · have d1 : decide ((i : Int) < (M.length : Int)) = true := by simpa using c1
        have d2 : decide ((i : Int) < 20) = true := by simp; omega
        obtain ⟨o, a1, a2, a3⟩ := Is.at (Sl.mono (Sl.mono h2 e1 (by simp)) e2 (by simp)) c1
        simp (disch := first | omega | exact one_int _ _ | exact one_slice _ _ _ _ | exact one_ptr _ | assumption | ((repeat (first | rw [next_new] | rw [AH.next_put] | rw [next_more])) <;> omega) | fail) only [outP_val, outP_enter, w_load_c, 
      vO_some, 
      w_lss, w_pick_b, w_add, wrap64_in, 
      condP_true, boolIs_bool, guardP_true, beq_tt, 
      if_true, hlen2, d1, d2, a1, a3, w_rem _ _ _ q50, hit_build]
        refine push_hit o9 (by rw [hitsOf_len]; omega) (100 + (i : Int), M[i].tmod 50) _ fun G3 s3 B3 e3 hB3 o3 => ?_
        refine hrec2 _ _ ⟨i + 1, B3, s3, by rfl, by omega, by omega, (e2.mono (m' := [B2]) (by simp)).trans e3 |>.mono fun b hb hlt => ?_, by omega, ?_⟩ ?_
        · simp at hb; omega
        · rw [hitsOf_succ, List.getD_eq_getElem?_getD, List.getElem?_eq_getElem c1]
          exact o3
        · show 20 - ((i : Int) + 1).toNat < 20 - (i : Int).toNat
          omega
      · have d1 : decide ((i : Int) < (M.length : Int)) = true := by simpa using c1
        have d2 : decide ((i : Int) < 20) = false := by simp; omega
        simp (disch := first | omega | exact one_int _ _ | exact one_slice _ _ _ _ | exact one_ptr _ | assumption | ((repeat (first | rw [next_new] | rw [AH.next_put] | rw [next_more])) <;> omega) | fail) only [outP_val, outP_enter, 
      w_lss, w_pick_b, w_add, wrap64_in, 
      condP_false, boolIs_bool, guardP_true, beq_tt, 
      if_true, hlen2, d1, d2]
        exact last
    · have d1 : decide ((i : Int) < (M.length : Int)) = false := by simpa using c1
      simp (disch := first | omega | exact one_int _ _ | exact one_slice _ _ _ _ | exact one_ptr _ | assumption | ((repeat (first | rw [next_new] | rw [AH.next_put] | rw [next_more])) <;> omega) | fail) only [outP_val, outP_enter, 
      w_lss, w_pick_b, w_add, wrap64_in, 
      condP_false, boolIs_bool, guardP_false, beq_tt, 
      if_false, Bool.false_eq_true, hlen2, d1]
      exact last
  by_cases c1 : j < L.length
  · by_cases c2 : j < 20
    · have d1 : decide ((j : Int) < (L.length : Int)) = true := by simpa using c1
      have d2 : decide ((j : Int) < 20) = true := by simp; omega
      obtain ⟨o, a1, a2, a3⟩ := Is.at (Sl.mono h1 e1 (by simp)) c1
      simp (disch := first | omega | exact one_int _ _ | exact one_slice _ _ _ _ | exact one_ptr _ | assumption | ((repeat (first | rw [next_new] | rw [AH.next_put] | rw [next_more])) <;> omega) | fail) only [outP_val, w_load_c, 
      vO_some, 
      w_lss, w_pick_b, w_add, wrap64_in, 
      condP_true, boolIs_bool, guardP_true, beq_tt, 
      if_true, hlen1, d1, d2, a1, a3, w_rem _ _ _ q50, hit_build]
      refine push_hit o8 (by rw [hitsOf_len]; omega) ((j : Int), L[j].tmod 50) _ fun G2 s2' B2 e2 hB2 o2 => ?_
      refine hrec _ _ ⟨j + 1, B2, s2', by rfl, by omega, by omega, (e1.mono (m' := [B]) (by simp)).trans e2 |>.mono fun b hb hlt => ?_, by omega, ?_⟩ ?_
      · simp at hb; omega
      · rw [hitsOf_succ, List.getD_eq_getElem?_getD, List.getElem?_eq_getElem c1]
        simpa using o2
      · show 20 - ((j : Int) + 1).toNat < 20 - (j : Int).toNat
        omega
    · have d1 : decide ((j : Int) < (L.length : Int)) = true := by simpa using c1
      have d2 : decide ((j : Int) < 20) = false := by simp; omega
      simp (disch := first | omega | exact one_int _ _ | exact one_slice _ _ _ _ | exact one_ptr _ | assumption | ((repeat (first | rw [next_new] | rw [AH.next_put] | rw [next_more])) <;> omega) | fail) only [outP_val, 
      w_lss, w_pick_b, w_add, wrap64_in, 
      condP_false, boolIs_bool, guardP_true, beq_tt, 
      if_true, hlen1, d1, d2]
      exact tail
  · have d1 : decide ((j : Int) < (L.length : Int)) = false := by simpa using c1
    simp (disch := first | omega | exact one_int _ _ | exact one_slice _ _ _ _ | exact one_ptr _ | assumption | ((repeat (first | rw [next_new] | rw [AH.next_put] | rw [next_more])) <;> omega) | fail) only [outP_val, 
      w_lss, w_pick_b, w_add, wrap64_in, 
      condP_false, boolIs_bool, guardP_false, beq_tt, 
      if_false, Bool.false_eq_true, hlen1, d1]
    exact tail
end
end Go.Ab
