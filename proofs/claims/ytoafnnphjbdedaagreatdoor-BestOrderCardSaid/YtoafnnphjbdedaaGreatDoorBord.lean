/- BestOrder: what it does, at any number, any scores, any turn. -/
import Derived.Test.YtoafnnphjbdedaaGreatDoorBestUp
import Derived.Test.YtoafnnphjbdedaaGreatDoorM5
namespace Go.Ab
noncomputable section
open Go.Proofs
set_option maxRecDepth 10000
variable {H H' : AH}

theorem bestOrder_wp {b : Nat} {s : AV} {L : List Int} (k turn : Int) (hs : Is .i64 H b s L) (_hb : b < H.next) (hl : Laid H) (K : AV → AH → Prop) (hK : ∀ H', Ext [] H H' → K (.bool true) H') : CC.call 5 [.int .i64 k, s, .int .i64 turn] H K := by
  refine m_fieldfarelaw7_BestOrder_ok _ _ _ _ _ ?_
  unfold m_fieldfarelaw7_BestOrder m_fieldfarelaw7_BestOrdert
  rw [outP_enter]
  refine begun_wp hl _ ?_
  unfold m_fieldfarelaw7_BestOrdertt m_fieldfarelaw7_BestOrderttt
  have q12 : (12 : Int) ≠ 0 := by decide
  obtain ⟨m1, m2, m3, m4⟩ := modn k (m := 12) (by decide)
  simp (disch := first | omega | exact one_int _ _ | exact one_slice _ _ _ _ | exact one_ptr _ | assumption | ((repeat (first | rw [next_new] | rw [AH.next_put] | rw [next_more])) <;> omega) | fail) only [outP_val, 
      w_not, w_add, wrap64_in, 
      condP_false, Bool.not_true, 
      Bool.not_true, condP_false, w_rem _ _ _ q12]
  generalize (k.tmod 12 + 12).tmod 12 = k' at *
  unfold m_fieldfarelaw7_BestOrdertttt m_fieldfarelaw7_BestOrderttttth m_fieldfarelaw7_BestOrderttttthtb
  have hlen := hs.len i64_sl
  -- the hits
  refine loopP_rule (I := fun t G => ∃ (j B : Nat) (s8 : AV), t = (.int .i64 k', s, .int .i64 turn, s8, .int .i64 j) ∧ j ≤ L.length ∧ j ≤ 30 ∧ Ext [] H G ∧ H.next ≤ B ∧ Own G 37 2 B s8 ((hitsOf 0 10 L j).map hitL)) (μ := fun t _ => match t.2.2.2.2 with | .int _ z => 30 - z.toNat | _ => 0) ?_ ⟨0, H.next, .slice none 0 0 true, rfl, Nat.zero_le _, Nat.zero_le _, Ext.refl _ _, Nat.le_refl _, Own.nil _ _ _ _⟩
  rintro t G ⟨j, B, s8, rfl, hj, hj30, e1, hB, o8⟩ rec hrec
  unfold m_fieldfarelaw7_BestOrderttttthtbl
  have n1 := e1.next
  -- behind the loop
  have tail : m_fieldfarelaw7_BestOrdertttttt K (.int .i64 k') (.int .i64 turn) s8 G := by
    have hu := hitsOf_uni 0 10 L j
    have hXl := hitsOf_len 0 10 L j
    generalize hitsOf 0 10 L j = X at *
    unfold m_fieldfarelaw7_BestOrdertttttt
    have low8 := o8.low
    rw [outP_enter]
    refine of_wp o8.sl (by omega) k' _ fun G1 sa Ba x1 hBa oa => ?_
    have na := x1.next
    have hA := best_len (k := k'.toNat) hu
    have hcnt := fun (Y : List (Int × Int)) (hp : X.Perm Y) (i : Nat) (hi : i < (bestL k'.toNat X).length) => best_count (k := k'.toNat) hu hp hi
    have hper := fun (Y : List (Int × Int)) (hp : X.Perm Y) => best_perm (k := k'.toNat) hu hp
    generalize bestL k'.toNat X = A at *
    have hsa : Hs G1 Ba sa A := oa.sl
    unfold m_fieldfarelaw7_BestOrderttttttth m_fieldfarelaw7_BestOrderttttttthtb
    have l8 := Hs.len (o8.sl : Hs G B s8 X)
    rw [l8, outP_val]
    refine loopP_rule (I := fun t G2 => ∃ (i : Nat) (Y : List (Int × Int)), t = (.int .i64 k', .int .i64 turn, s8, sa, .int .i64 X.length, .int .i64 i) ∧ i ≤ X.length ∧ Y.Perm X ∧ Own G2 37 2 B s8 (Y.map hitL) ∧ Ext [B] G1 G2) (μ := fun t _ => match t.2.2.2.2.2 with | .int _ z => X.length - z.toNat | _ => 0) ?_ ⟨0, X, rfl, Nat.zero_le _, List.Perm.refl _, o8.mono x1 (by simp), Ext.refl _ _⟩
    rintro t G2 ⟨i, Y, rfl, hi, hp, o2, x2⟩ rec2 hrec2
    have ly : Y.length = X.length := hp.length_eq
    have l2 := Hs.len (o2.sl : Hs G2 B s8 Y)
    rw [ly] at l2
    unfold m_fieldfarelaw7_BestOrderttttttthtbl
    by_cases ci : i < X.length
    · have d1 : decide ((i : Int) < (X.length : Int)) = true := by simpa using ci
      obtain ⟨t1, t2, t3, t4⟩ := modn turn (m := 30) (by decide)
      have hne : (X.length : Int) ≠ 0 := by omega
      obtain ⟨m, hm, hmX⟩ : ∃ m : Nat, ((i : Int) * 7 + (turn.tmod 30 + 30).tmod 30).tmod X.length = m ∧ m < X.length := by
        have q1 := Int.tmod_nonneg (a := (i : Int) * 7 + (turn.tmod 30 + 30).tmod 30) X.length (by omega)
        have q2 := Int.tmod_lt_of_pos ((i : Int) * 7 + (turn.tmod 30 + 30).tmod 30) (b := X.length) (by omega)
        exact ⟨(((i : Int) * 7 + (turn.tmod 30 + 30).tmod 30).tmod X.length).toNat, by omega, by omega⟩
      obtain ⟨p1, a1, a2, a3, a4⟩ := o2.hit (j := m) (by omega)
      obtain ⟨p2, b1, b2, b3, b4⟩ := o2.hit (j := i) (by omega)
      obtain ⟨G3, c1, c2, c3, o3⟩ := b4 Y[m]
      obtain ⟨p3, e3, e4, e5, e6⟩ := o3.hit (j := m) (by rw [List.length_set]; omega)
      have hpp : p3 = p1 := by
        have := (e3 G2).symm.trans (a1 G2)
        simp only [Option.some.injEq, Out.val.injEq, AV.ptr.injEq, Prod.mk.injEq, true_and, and_true] at this
        exact this
      subst hpp
      obtain ⟨G4, f1, f2, f3, o4⟩ := e6 Y[i]
      simp (disch := first | omega | exact one_int _ _ | exact one_slice _ _ _ _ | exact one_ptr _ | assumption | ((repeat (first | rw [next_new] | rw [AH.next_put] | rw [next_more])) <;> omega) | fail) only [outP_val, outP_skip, w_load_n, 
      vO_some, 
      w_lss, w_add, wrap64_in, 
      condP_true, w_store_c, 
      d1, l2, w_mul, w_rem _ _ _ hne, w_rem _ _ _ (show (30 : Int) ≠ 0 by decide), hm, a1, a3, b1, b3, c1, f1]
      refine hrec2 _ _ ⟨i + 1, _, by rfl, by omega, (List.set_set_perm (by omega) (by omega)).trans hp, o4, x2.trans (c2.trans f2)⟩ ?_
      show X.length - ((i : Int) + 1).toNat < X.length - (i : Int).toNat
      omega
    · have d1 : decide ((i : Int) < (X.length : Int)) = false := by simpa using ci
      simp (disch := first | omega | exact one_int _ _ | exact one_slice _ _ _ _ | exact one_ptr _ | assumption | ((repeat (first | rw [next_new] | rw [AH.next_put] | rw [next_more])) <;> omega) | fail) only [outP_val, 
      w_lss, w_add, wrap64_in, 
      condP_false, 
      d1]
      unfold m_fieldfarelaw7_BestOrdertttttttt
      rw [outP_enter]
      refine of_wp o2.sl (by omega) k' _ fun G3 sb Bb x3 hBb ob => ?_
      rw [← hper Y hp.symm] at ob
      have hsb : Hs G3 Bb sb A := ob.sl
      have hsa3 : Hs G3 Ba sa A := Sl.mono (Sl.mono' hsa x2 (fun q => by
        rcases low8 with r | r
        · simp at q; omega
        · have : X = [] := by simpa using r
          have : A = [] := by apply List.eq_nil_of_length_eq_zero; rw [hA, this]; simp
          simp [this])) x3 (by simp)
      have hsY : Hs G3 B s8 Y := Sl.mono o2.sl x3 (by simp)
      have la := hsa3.len
      have lY := hsY.len
      unfold m_fieldfarelaw7_BestOrderttttttttth m_fieldfarelaw7_BestOrderttttttttthtb
      rw [la, outP_val]
      refine loopP_rule (I := fun t G4 => ∃ i : Nat, t = (.int .i64 k', s8, sa, sb, .int .i64 A.length, .int .i64 i) ∧ i ≤ A.length ∧ Ext [] G3 G4) (μ := fun t _ => match t.2.2.2.2.2 with | .int _ z => A.length - z.toNat | _ => 0) ?_ ⟨0, rfl, Nat.zero_le _, Ext.refl _ _⟩
      rintro t G4 ⟨i, rfl, hi, x4⟩ rec4 hrec4
      have hsa4 : Hs G4 Ba sa A := Sl.mono hsa3 x4 (by simp)
      have hsb4 : Hs G4 Bb sb A := Sl.mono hsb x4 (by simp)
      have hsY4 : Hs G4 B s8 Y := Sl.mono hsY x4 (by simp)
      unfold m_fieldfarelaw7_BestOrderttttttttthtbl
      by_cases ci : i < A.length
      · have d1 : decide ((i : Int) < (A.length : Int)) = true := by simpa using ci
        simp (disch := first | omega | exact one_int _ _ | exact one_slice _ _ _ _ | exact one_ptr _ | assumption | ((repeat (first | rw [next_new] | rw [AH.next_put] | rw [next_more])) <;> omega) | fail) only [outP_val, 
      w_lss, 
      
      d1]
        unfold m_fieldfarelaw7_BestOrderttttttttthtblt
        rw [condP_true]
        unfold m_fieldfarelaw7_BestOrderttttttttthtbltthb m_fieldfarelaw7_BestOrderttttttttthtbltthbt m_fieldfarelaw7_BestOrderttttttttthtbltthbtth m_fieldfarelaw7_BestOrderttttttttthtbltthbtthtb
        rw [lY, outP_val]
        refine loopP_rule (I := fun t G5 => ∃ q n : Nat, t = (.int .i64 k', s8, sa, sb, .int .i64 i, .int .i64 n, .int .i64 A.length, .int .i64 i, s8, .int .i64 Y.length, .int .i64 q) ∧ q ≤ Y.length ∧ Ext [] G4 G5 ∧ n = (Y.take q).countP (fun h => lessB h A[i])) (μ := fun t _ => match t.2.2.2.2.2.2.2.2.2.2 with | .int _ z => Y.length - z.toNat | _ => 0) ?_ ⟨0, 0, rfl, Nat.zero_le _, Ext.refl _ _, by simp⟩
        rintro t G5 ⟨q, n, rfl, hq, x5, hn⟩ rec5 hrec5
        have hnle : n ≤ Y.length := by rw [hn]; exact Nat.le_trans List.countP_le_length (by rw [List.length_take]; omega)
        unfold m_fieldfarelaw7_BestOrderttttttttthtbltthbtthtbl
        by_cases cq : q < Y.length
        · have d2 : decide ((q : Int) < (Y.length : Int)) = true := by simpa using cq
          obtain ⟨o1, a1, a2, a3⟩ := Hs.at (Sl.mono hsY4 x5 (by simp)) cq
          obtain ⟨o2', b1, b2, b3⟩ := Hs.at (Sl.mono hsa4 x5 (by simp)) ci
          unfold hitA hitL at a3 b3
          have x6 : Ext [] G5 ((G5.new (.cells 37 [.int .i64 0, .int .i64 0])).put G5.next (some (.cells 37 [.int .i64 Y[q].1, .int .i64 Y[q].2]))) := ((Ext.refl _ _).new _).put (.inl (Nat.le_refl _)) _
          simp (disch := first | omega | exact one_int _ _ | exact one_slice _ _ _ _ | exact one_ptr _ | assumption | ((repeat (first | rw [next_new] | rw [AH.next_put] | rw [next_more])) <;> omega) | fail) only [outP_val, outP_skip, outP_enter, w_load_n, get_new_eq, get_new_ne, get_put_same, get_put_ne, 
      ldN_pair, vO_some, 
      w_neq, w_lss, w_add, wrap64_in, 
      condP_not, condP_true, w_alloc_none, w_store_c, stN_two, 
      d2, a1, a3, b1, b3]
          refine less_wp Y[q] A[i] _ _ fun G6 x7 => ?_
          simp (disch := first | omega | exact one_int _ _ | exact one_slice _ _ _ _ | exact one_ptr _ | assumption | ((repeat (first | rw [next_new] | rw [AH.next_put] | rw [next_more])) <;> omega) | fail) only [
      
      
      
      condP_bool]
          have hcp : (Y.take (q + 1)).countP (fun h => lessB h A[i]) = n + (if lessB Y[q] A[i] = true then 1 else 0) := by
            rw [List.take_succ_eq_append_getElem cq, List.countP_append, ← hn, List.countP_singleton]
          refine ⟨fun cl => ?_, fun cl => ?_⟩
          · refine hrec5 _ _ ⟨q + 1, n + 1, by rfl, by omega, x5.trans (x6.trans x7), by rw [hcp, if_pos cl]⟩ ?_
            show Y.length - ((q : Int) + 1).toNat < Y.length - (q : Int).toNat
            omega
          · refine hrec5 _ _ ⟨q + 1, n, by rfl, by omega, x5.trans (x6.trans x7), by rw [hcp, if_neg (by rw [cl]; simp), Nat.add_zero]⟩ ?_
            show Y.length - ((q : Int) + 1).toNat < Y.length - (q : Int).toNat
            omega
        · have d2 : decide ((q : Int) < (Y.length : Int)) = false := by simpa using cq
          have hni : n = i := by
            rw [hn, List.take_of_length_le (by omega)]
            exact hcnt Y hp.symm i ci
          subst hni
          simp (disch := first | omega | exact one_int _ _ | exact one_slice _ _ _ _ | exact one_ptr _ | assumption | ((repeat (first | rw [next_new] | rw [AH.next_put] | rw [next_more])) <;> omega) | fail) only [outP_val, outP_enter, w_load_n, get_new_eq, 
      w_neq, w_lss, w_add, wrap64_in, 
      condP_false, w_alloc_none, w_store_c, Bool.not_true, 
      decide_true, d2]
          refine hrec4 _ _ ⟨n + 1, by rfl, by omega, x4.trans x5⟩ ?_
          show A.length - ((n : Int) + 1).toNat < A.length - (n : Int).toNat
          omega
      · have d1 : decide ((i : Int) < (A.length : Int)) = false := by simpa using ci
        simp (disch := first | omega | exact one_int _ _ | exact one_slice _ _ _ _ | exact one_ptr _ | assumption | ((repeat (first | rw [next_new] | rw [AH.next_put] | rw [next_more])) <;> omega) | fail) only [outP_val, 
      w_lss, 
      
      d1]
        unfold m_fieldfarelaw7_BestOrderttttttttthtblt
        rw [condP_false, outP_enter]
        refine hits_wp hsa4 hsb4 (by omega) _ ?_
        have d3 : decide ((A.length : Int) = min k' (Y.length : Int)) = true := by
          rw [decide_eq_true_iff]; omega
        simp (disch := first | omega | exact one_int _ _ | exact one_slice _ _ _ _ | exact one_ptr _ | assumption | ((repeat (first | rw [next_new] | rw [AH.next_put] | rw [next_more])) <;> omega) | fail) only [outP_val, 
      w_eql, w_pick_b, 
      w_min2_int, boolIs_bool, guardP_true, beq_tt, 
      decide_true, if_true, la, lY, d3]
        refine hK _ (((((e1.trans x1).mono (m' := [B]) (by simp)).trans x2).trans ((x3.trans x4).mono (m' := [B]) (by simp))).mono fun b hb hlt => ?_)
        simp at hb; omega
  by_cases c1 : j < L.length
  · by_cases c2 : j < 30
    · have d1 : decide ((j : Int) < (L.length : Int)) = true := by simpa using c1
      have d2 : decide ((j : Int) < 30) = true := by simp; omega
      obtain ⟨o, a1, a2, a3⟩ := Is.at (Sl.mono hs e1 (by simp)) c1
      simp (disch := first | omega | exact one_int _ _ | exact one_slice _ _ _ _ | exact one_ptr _ | assumption | ((repeat (first | rw [next_new] | rw [AH.next_put] | rw [next_more])) <;> omega) | fail) only [outP_val, w_load_c, 
      vO_some, 
      w_lss, w_pick_b, w_add, wrap64_in, 
      condP_true, boolIs_bool, guardP_true, beq_tt, 
      if_true, hlen, d1, d2, a1, a3, w_rem _ _ _ (show (10 : Int) ≠ 0 by decide), hit_build]
      refine push_hit o8 (by rw [hitsOf_len]; omega) ((j : Int), L[j].tmod 10) _ fun G2 s2 B2 e2 hB2 o2 => ?_
      refine hrec _ _ ⟨j + 1, B2, s2, by rfl, by omega, by omega, (e1.mono (m' := [B]) (by simp)).trans e2 |>.mono fun b hb hlt => ?_, by omega, ?_⟩ ?_
      · simp at hb; omega
      · rw [hitsOf_succ, List.getD_eq_getElem?_getD, List.getElem?_eq_getElem c1]
        simpa using o2
      · show 30 - ((j : Int) + 1).toNat < 30 - (j : Int).toNat
        omega
    · have d1 : decide ((j : Int) < (L.length : Int)) = true := by simpa using c1
      have d2 : decide ((j : Int) < 30) = false := by simp; omega
      simp (disch := first | omega | exact one_int _ _ | exact one_slice _ _ _ _ | exact one_ptr _ | assumption | ((repeat (first | rw [next_new] | rw [AH.next_put] | rw [next_more])) <;> omega) | fail) only [outP_val, 
      w_lss, w_pick_b, w_add, wrap64_in, 
      condP_false, boolIs_bool, guardP_true, beq_tt, 
      if_true, hlen, d1, d2]
      exact tail
  · have d1 : decide ((j : Int) < (L.length : Int)) = false := by simpa using c1
    simp (disch := first | omega | exact one_int _ _ | exact one_slice _ _ _ _ | exact one_ptr _ | assumption | ((repeat (first | rw [next_new] | rw [AH.next_put] | rw [next_more])) <;> omega) | fail) only [outP_val, 
      w_lss, w_pick_b, w_add, wrap64_in, 
      condP_false, boolIs_bool, guardP_false, beq_tt, 
      if_false, Bool.false_eq_true, hlen, d1]
    exact tail
end
end Go.Ab
