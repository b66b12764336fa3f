/- BestOwn: what it does, at any number and any slice of hits. -/
import Derived.Test.YtoafnnphjbdedaaGreatDoorHits
import Derived.Test.YtoafnnphjbdedaaGreatDoorM4
namespace Go.Ab
noncomputable section
open Go.Proofs
set_option maxRecDepth 10000
variable {H H' : AH}

theorem two_of {l : List AV} (h : l.length = 2) : ∃ u v, l = [u, v] := by
  match l, h with
  | [u, v], _ => exact ⟨u, v, rfl⟩

theorem bestOwn_wp {b : Nat} {s : AV} {L : List (Int × Int)} (k : Int) (hs : Hs H b s L) (_hb : b < H.next) (hl : Laid H) (K : AV → AH → Prop) (hK : ∀ H', Ext [] H H' → K (.bool true) H') : CC.call 4 [.int .i64 k, s] H K := by
  refine m_fieldfarelaw7_BestOwn_ok _ _ _ _ ?_
  unfold m_fieldfarelaw7_BestOwn m_fieldfarelaw7_BestOwnt
  rw [outP_enter]
  refine begun_wp hl _ ?_
  unfold m_fieldfarelaw7_BestOwntt m_fieldfarelaw7_BestOwnttt
  rw [w_not, outP_val]
  have q10 : (10 : Int) ≠ 0 := by decide
  simp (disch := first | omega | exact one_int _ _ | exact one_slice _ _ _ _ | exact one_ptr _ | assumption | ((repeat (first | rw [next_new] | rw [AH.next_put] | rw [next_more])) <;> omega) | fail) only [outP_val, 
      w_add, 
      condP_false, Bool.not_true, 
      Bool.not_true, condP_false, w_rem _ _ _ q10]
  generalize IntKind.wrap .i64 (1 + (IntKind.wrap .i64 (k.tmod 10 + 10)).tmod 10) = k'
  unfold m_fieldfarelaw7_BestOwntttt
  rw [outP_enter]
  refine new_wp k' _ fun G0 e0 hb0 => ?_
  unfold m_fieldfarelaw7_BestOwnttttth m_fieldfarelaw7_BestOwnttttthtb
  have hp0 := hb0.lt
  generalize hp : H.next = p at *
  have hlen := hs.len
  generalize hk : k'.toNat = kk at *
  refine loopP_rule (I := fun t G => ∃ j B : Nat, t = (s, .ptr (some (p, 0)), .int .i64 j) ∧ j ≤ L.length ∧ j ≤ 20 ∧ Ext [] H G ∧ p < B ∧ IsBest G p B kk (bestL kk (L.take j))) (μ := fun t _ => match t.2.2 with | .int _ z => 20 - z.toNat | _ => 0) ?_ ⟨0, p + 1, rfl, Nat.zero_le _, Nat.zero_le _, e0, by omega, by simpa [bestL] using hb0⟩
  rintro t G ⟨j, B, rfl, hj, hj20, e1, hB, hbj⟩ rec hrec
  unfold m_fieldfarelaw7_BestOwnttttthtbl
  have hlt := hbj.lt
  have hM : (bestL kk (L.take j)).length ≤ 20 := by have := bestL_len kk (L.take j); rw [List.length_take] at this; omega
  -- what comes behind the loop
  have tail : m_fieldfarelaw7_BestOwntttttt K (.ptr (some (p, 0))) G := by
    unfold m_fieldfarelaw7_BestOwntttttt m_fieldfarelaw7_BestOwnttttttt
    generalize bestL kk (L.take j) = M at *
    rw [outP_enter]
    refine all_wp hbj (by omega) _ fun G1 s1 B1 x1 hB1 o1 => ?_
    have n1 := x1.next
    obtain ⟨s2, G2, B2, w1, x2, hB2, o2⟩ := (Own.nil G1 37 2 G1.next).append (by_ := 16) o1.sl (by omega) (by simp only [List.length_nil, List.length_map]; omega)
    refine st w1 ?_
    have hB2' : G1.next ≤ B2 := by rcases hB2 with q | q <;> omega
    have n2 := x2.next
    have x2' : Ext [] G1 G2 := x2.mono fun b hb hlt => by simp at hb; omega
    rw [List.nil_append] at o2
    have hb2 : IsBest G2 p B kk M := (hbj.mono x1 (by simp) (by simp)).mono x2' (by simp) (by simp)
    have hlow := hbj.low
    unfold m_fieldfarelaw7_BestOwntttttttth m_fieldfarelaw7_BestOwntttttttthtb
    have hs1 : Hs G1 B1 s1 M := o1.sl
    rw [hs1.len, outP_val]
    have x12 := x1.trans x2'
    have o1' : Own G2 37 2 B1 s1 (M.map hitL) := o1.mono x2' (by simp)
    refine loopP_rule (I := fun t G3 => ∃ (i : Nat) (X : List (List AV)), t = (.ptr (some (p, 0)), s1, s2, .int .i64 M.length, .int .i64 i) ∧ i ≤ M.length ∧ X.length = M.length ∧ Own G3 37 2 B1 s1 X ∧ Ext [B1] G2 G3) (μ := fun t _ => match t.2.2.2.2 with | .int _ z => M.length - z.toNat | _ => 0) ?_ ⟨0, M.map hitL, rfl, Nat.zero_le _, by rw [List.length_map], o1', Ext.refl _ _⟩
    rintro t G3 ⟨i, X, rfl, hi, hX, o3, x3⟩ rec3 hrec3
    unfold m_fieldfarelaw7_BestOwntttttttthtbl
    simp (disch := first | omega | exact one_int _ _ | exact one_slice _ _ _ _ | exact one_ptr _ | assumption | ((repeat (first | rw [next_new] | rw [AH.next_put] | rw [next_more])) <;> omega) | fail) only [outP_val, outP_enter, 
      w_lss, w_add, wrap64_in, 
      condP_dec 
      ]
    refine ⟨fun c => ?_, fun c => ?_⟩
    · have ci : i < X.length := by omega
      obtain ⟨q, a1, a2, a3, a4⟩ := o3.at ci .i64
      have hsz := o3.szs X[i] (List.getElem_mem ci)
      obtain ⟨u, v, huv⟩ := two_of hsz
      have kn := o3.known X[i] (List.getElem_mem ci)
      have on := o3.one X[i] (List.getElem_mem ci)
      rw [huv] at kn on
      have kn2 : v.known = true := List.all_eq_true.1 kn v (by simp)
      have on2 : v.one = true := List.all_eq_true.1 on v (by simp)
      obtain ⟨G4, b1, b2, b3, b4, b5⟩ := a4 [.int .i64 (-7), v] rfl (List.all_eq_true.2 fun x hx => by simp only [List.mem_cons, List.not_mem_nil, or_false] at hx; rcases hx with rfl | rfl; rfl; exact kn2) (List.all_eq_true.2 fun x hx => by simp only [List.mem_cons, List.not_mem_nil, or_false] at hx; rcases hx with rfl | rfl; rfl; exact on2) 1 0 (.int .i64 (-7)) rfl (by simp [AV.parts]) (by omega) (by rw [huv]; rfl)
      have b1' : stN 1 G3 B1 (G3.get B1) q (.int .i64 (-7)) = some (.skip G4) := b1
      simp (disch := first | omega | exact one_int _ _ | exact one_slice _ _ _ _ | exact one_ptr _ | assumption | ((repeat (first | rw [next_new] | rw [AH.next_put] | rw [next_more])) <;> omega) | fail) only [outP_val, outP_skip, w_fieldAddr_ptr, 
      Nat.add_zero, 
      w_store_c, 
      a1, b1']
      refine hrec3 _ _ ⟨i + 1, _, by rfl, by omega, by rw [List.length_set]; exact hX, b5, x3.trans b2⟩ ?_
      show M.length - ((i : Int) + 1).toNat < M.length - (i : Int).toNat
      omega
    · have x3' : Ext [B1] G G3 := (x12.mono (by simp)).trans x3
      have hb3 : IsBest G3 p B kk M := hbj.mono' x3' (by simp; omega) (by simp; omega)
      have hs2 : Hs G2 B2 s2 M := o2.sl
      have hs3 : Hs G3 B2 s2 M := Sl.mono' hs2 x3 (fun q => by
        rcases o1.low with r | r
        · simp at q; omega
        · exact r)
      refine all_wp hb3 (by omega) _ fun G4 s4 B4 x4 hB4 o4 => ?_
      have hs4 : Hs G4 B2 s2 M := Sl.mono hs3 x4 (by simp)
      refine hits_wp o4.sl hs4 (by omega) _ ?_
      rw [decide_eq_true rfl]
      have hb4 := hb3.mono x4 (by simp) (by simp)
      have ln := hs4.len
      simp (disch := first | omega | exact one_int _ _ | exact one_slice _ _ _ _ | exact one_ptr _ | assumption | ((repeat (first | rw [next_new] | rw [AH.next_put] | rw [next_more])) <;> omega) | fail) only [outP_val, outP_enter, 
      w_pick_b, 
      boolIs_bool, guardP_true, beq_tt, 
      if_true ]
      refine len_wp hb4 _ ?_
      simp (disch := first | omega | exact one_int _ _ | exact one_slice _ _ _ _ | exact one_ptr _ | assumption | ((repeat (first | rw [next_new] | rw [AH.next_put] | rw [next_more])) <;> omega) | fail) only [outP_val, 
      w_eql, 
      decide_true, ln]
      refine hK _ ?_
      have n4 := x4.next
      refine ((e1.mono (m' := [B1]) (by simp)).trans (x3'.trans (x4.mono (by simp)))).mono fun b hb hlt => ?_
      have := e1.next
      simp at hb; omega
  -- the loop
  by_cases c1 : j < L.length
  · by_cases c2 : j < 20
    · have d1 : decide ((j : Int) < (L.length : Int)) = true := by simpa using c1
      have d2 : decide ((j : Int) < 20) = true := by simp; omega
      obtain ⟨o, a1, a2, a3⟩ := Hs.at (Sl.mono hs e1 (by simp)) c1
      simp (disch := first | omega | exact one_int _ _ | exact one_slice _ _ _ _ | exact one_ptr _ | assumption | ((repeat (first | rw [next_new] | rw [AH.next_put] | rw [next_more])) <;> omega) | fail) only [outP_val, outP_enter, w_load_n, 
      vO_some, 
      w_lss, w_pick_b, w_add, wrap64_in, 
      condP_true, boolIs_bool, guardP_true, beq_tt, 
      if_true, hlen, d1, d2, a1, a3]
      refine put_wp hbj (by omega) L[j] _ fun G2 B2 e2 hB2 hb2 => ?_
      refine hrec _ _ ⟨j + 1, B2, by rfl, by omega, by omega, ?_, ?_, ?_⟩ ?_
      · refine ((e1.mono (m' := [p, B]) (by simp)).trans e2).mono fun b hb hlt => ?_
        simp at hb; omega
      · omega
      · rw [List.take_succ_eq_append_getElem c1, bestL_snoc]; exact hb2
      · show 20 - ((j : Int) + 1).toNat < 20 - (j : Int).toNat
        omega
    · have d1 : decide ((j : Int) < (L.length : Int)) = true := by simpa using c1
      have d2 : decide ((j : Int) < 20) = false := by simp; omega
      simp (disch := first | omega | exact one_int _ _ | exact one_slice _ _ _ _ | exact one_ptr _ | assumption | ((repeat (first | rw [next_new] | rw [AH.next_put] | rw [next_more])) <;> omega) | fail) only [outP_val, outP_enter, 
      w_lss, w_pick_b, w_add, wrap64_in, 
      condP_false, boolIs_bool, guardP_true, beq_tt, 
      if_true, hlen, d1, d2]
      exact tail
  · have d1 : decide ((j : Int) < (L.length : Int)) = false := by simpa using c1
    simp (disch := first | omega | exact one_int _ _ | exact one_slice _ _ _ _ | exact one_ptr _ | assumption | ((repeat (first | rw [next_new] | rw [AH.next_put] | rw [next_more])) <;> omega) | fail) only [outP_val, outP_enter, 
      w_lss, w_pick_b, w_add, wrap64_in, 
      condP_false, boolIs_bool, guardP_false, beq_tt, 
      if_false, Bool.false_eq_true, hlen, d1]
    exact tail
end
end Go.Ab
