/- fieldfarelaw7.PoolAll: what it does, at any input. -/
import Derived.Test.YtjpjmeidpjjgdaaGreatDoorRPool
import Derived.Test.YtjpjmeidpjjgdaaGreatDoorP3
namespace Go.Ab
noncomputable section
open Go.Proofs
set_option maxRecDepth 10000
variable {H H' : AH}

/-- Both pools, beside each other. -/
structure Two (H0 H : AH) (p rp RB N : Nat) (W : List Int) (S : PS) : Prop where
  ext : Ext [] H0 H
  ex : ∃ fl, (∀ b ∈ fl, H0.next ≤ b ∧ b ≠ rp ∧ (W = [] ∨ b ≠ RB)) ∧ Pl H fl p S
  rf : Rp H rp RB W
  lr : H0.next ≤ rp ∧ H0.next ≤ RB
  pw : PW W S
  inv : PInv N S
  len : W.length = N
theorem Two.mono {H0 : AH} {p rp RB N : Nat} {W : List Int} {S : PS} (h : Two H0 H p rp RB N W S) (e : Ext [] H H') : Two H0 H' p rp RB N W S := by
  obtain ⟨fl, h1, h2⟩ := h.ex
  exact ⟨h.ext.trans e, ⟨fl, h1, h2.mono e (by simp)⟩, h.rf.mono e (by simp) (by simp), h.lr, h.pw, h.inv, h.len⟩
theorem poolAll_wp {b : Nat} {s : AV} {L : List (Int × Int)} (n : Int) (h : Hs H b s L) (hw : ∀ x ∈ L, x.2 ≤ 9223372036854775807) (hl : Laid H) (K : AV → AH → Prop) (hK : ∀ H', Ext [] H H' → K (.bool true) H') : CC.call 3 [.int .i64 n, s] H K := by
  refine m_fieldfarelaw7_PoolAll_ok _ _ _ _ ?_
  unfold m_fieldfarelaw7_PoolAll m_fieldfarelaw7_PoolAllt
  rw [outP_enter]
  refine begun_wp hl _ ?_
  unfold m_fieldfarelaw7_PoolAlltt
  rw [w_not, outP_val, Bool.not_true, condP_false]
  unfold m_fieldfarelaw7_PoolAllttt
  rw [outP_enter]
  refine poolNew_wp n _ fun G1 fl p x1 hfl hp => ?_
  rw [outP_enter]
  refine rNew_wp n _ fun G2 rp RB x2 hrp hRB hr => ?_
  obtain ⟨N, hN, hN1⟩ : ∃ N : Nat, (min (max n 0) 1000).toNat = N ∧ N ≤ 1000 := ⟨_, rfl, by omega⟩
  rw [hN] at hp hr
  have n1 := x1.next
  have h0 : Two H G2 p rp RB N (List.replicate N nob) (startP N) := ⟨x1.trans x2, ⟨fl, fun q hq => by
    have := hfl q hq
    have := hp.low q hq
    exact ⟨by omega, by omega, .inr (by omega)⟩, hp.mono x2 (by simp)⟩, hr, ⟨by omega, by omega⟩, start_same N, start_inv N, by simp⟩
  unfold m_fieldfarelaw7_PoolAlltttth m_fieldfarelaw7_PoolAlltttthtb
  refine loopP_rule (I := fun t G => ∃ (j : Nat) (W : List Int) (S : PS), t = (s, .ptr (some (p, 0)), .ptr (some (rp, 0)), .int .i64 j) ∧ j ≤ L.length ∧ Two H G p rp RB N W S) (μ := fun t _ => match t.2.2.2 with | .int _ z => L.length - z.toNat | _ => 0) ?_ ⟨0, _, _, rfl, Nat.zero_le _, h0⟩
  clear h0 hp hr x1 x2 G1 G2 hfl hrp hRB n1
  rintro t G ⟨j, W, S, rfl, hj, h0⟩ rec hrec
  unfold m_fieldfarelaw7_PoolAlltttthtbl
  have hsG : Hs G b s L := Sl.mono h h0.ext (by simp)
  have dl : ∀ z : Int, decide (z = z) = true := fun z => decide_eq_true rfl
  have ib : ∀ (z : Int), AV.beq (.int .i64 z) (.int .i64 z) = true := fun z => by simp [AV.beq, eqZ_eq, kEq]
  have hWl : ∀ {G : AH} {W : List Int} {S : PS}, Two H G p rp RB N W S → W.length ≤ 1000 := fun h => by rw [h.len]; exact hN1
  rw [ops_len hsG, outP_val, w_lss, outP_val]
  by_cases go : j < L.length ∧ j < 40
  · have d1 : decide ((j : Int) < (L.length : Int)) = true := decide_eq_true (by omega)
    have d2 : decide ((j : Int) < 40) = true := decide_eq_true (by omega)
    obtain ⟨o, c1, c2, c3⟩ := hsG.at go.1
    have hx := hw _ (List.getElem_mem go.1)
    rw [boolIs_bool, beq_tt, d1, guardP_true, outP_val, guardP_true, w_lss, outP_val, d2, w_pick_b, outP_val, if_pos rfl, condP_true]
    unfold m_fieldfarelaw7_PoolAlltttthtblthb
    rw [c1, outP_val, w_load_n, c3, vO_some, outP_val, w_alloc_none, outP_val, w_store_c, get_new_same]
    obtain ⟨O, B, hOB⟩ : ∃ O B : Int, L[j] = (O, B) := ⟨_, _, rfl⟩
    rw [hOB] at hx ⊢
    rw [show hitA (O, B) = .agg [.int .i64 O, .int .i64 B] from rfl, stN_two _ _ _ _ _ _ rfl rfl, outP_skip]
    have y1 : Ext [] G ((G.new (.cells 29 [.int .i64 0, .int .i64 0])).put G.next (some (.cells 29 [.int .i64 O, .int .i64 B]))) := ((Ext.refl _ _).new _).put (.inl (Nat.le_refl _)) _
    have gp := get_put_same (H := G.new (.cells 29 [.int .i64 0, .int .i64 0])) G.next (some (.cells 29 [.int .i64 O, .int .i64 B]))
    have gn : ((G.new (.cells 29 [.int .i64 0, .int .i64 0])).put G.next (some (.cells 29 [.int .i64 O, .int .i64 B]))).next = G.next + 1 := by rw [AH.next_put, next_new]
    have h1 := h0.mono y1
    have low0 : ∃ fl, (∀ b ∈ fl, H.next ≤ b ∧ b ≠ rp ∧ (W = [] ∨ b ≠ RB) ∧ b < G.next) ∧ Pl ((G.new (.cells 29 [.int .i64 0, .int .i64 0])).put G.next (some (.cells 29 [.int .i64 O, .int .i64 B]))) fl p S := by
      obtain ⟨fl, q1, q2⟩ := h0.ex
      exact ⟨fl, fun b hb => ⟨(q1 b hb).1, (q1 b hb).2.1, (q1 b hb).2.2, q2.low b hb⟩, q2.mono y1 (by simp)⟩
    have rpl := h0.rf.lt
    have rbl := h0.rf.low
    generalize (G.new (.cells 29 [.int .i64 0, .int .i64 0])).put G.next (some (.cells 29 [.int .i64 O, .int .i64 B])) = G3 at *
    obtain ⟨po, hpo⟩ : ∃ po, G.next = po := ⟨_, rfl⟩
    rw [hpo] at gp gn low0 rpl rbl ⊢
    have l1 : ∀ G' : AH, G'.get po = some (.cells 29 [.int .i64 O, .int .i64 B]) → ldV (G'.get po) 0 = some (.int .i64 O) := fun G' e => by rw [e]; rfl
    have l2 : ∀ G' : AH, G'.get po = some (.cells 29 [.int .i64 O, .int .i64 B]) → ldV (G'.get po) 1 = some (.int .i64 B) := fun G' e => by rw [e]; rfl
    have dec : L.length - ((j : Int) + 1).toNat < L.length - (j : Int).toNat := by omega
    unfold m_fieldfarelaw7_PoolAlltttthtblthbt
    rw [w_fieldAddr_ptr, outP_val, Nat.add_zero, w_load_c, l1 _ gp, vO_some, outP_val, w_eql, outP_val]
    by_cases co : O = nob
    · rw [show decide (O = -9223372036854775808) = true from decide_eq_true co, condP_true]
      unfold m_fieldfarelaw7_PoolAlltttthtbltt
      rw [w_add_in (by omega) (by omega), outP_val]
      exact hrec _ _ ⟨j + 1, W, S, by rfl, by omega, h1⟩ dec
    · rw [show decide (O = -9223372036854775808) = false from decide_eq_false co, condP_false]
      unfold m_fieldfarelaw7_PoolAlltttthtblthbtt
      rw [w_fieldAddr_ptr, outP_val, Nat.add_zero, w_load_c, l1 _ gp, vO_some, outP_val, w_fieldAddr_ptr, outP_val, Nat.zero_add, w_load_c, l2 _ gp, vO_some, outP_val, w_fieldAddr_ptr, outP_val, Nat.add_zero, w_load_c, l1 _ gp, vO_some, outP_val, w_fieldAddr_ptr, outP_val, Nat.zero_add, w_load_c, l2 _ gp, vO_some, outP_val, outP_enter]
      obtain ⟨fl, q1, q2⟩ := low0
      have lF := h1.inv.lenF
      have lO := h1.inv.lenO O
      refine poolSize_wp q2 (by omega) (by omega) hx _ fun G4 fl' e4 hfl' p4 => ?_
      have gp4 : G4.get po = _ := e4.get (by omega) (fun q => by have := (q1 _ q).2.2.2; omega) gp
      have n4 := e4.next
      rw [w_load_c, l1 _ gp4, vO_some, reC_val, ib, ckP_true, w_load_c, l2 _ gp4, vO_some, reC_val, ib, ckP_true, outP_enter]
      have r4 : Rp G4 rp RB W := h1.rf.mono e4 (fun q => (q1 _ q).2.1 rfl) (fun q => (q1 _ q).2.2.1.resolve_right (fun r => r rfl))
      refine rSize_wp r4 (hWl h1) hx _ fun G5 e5 r5 => ?_
      obtain ⟨s1, s2⟩ := size_same h1.pw co B
      have i2 := size_inv h1.inv O B
      have len2 : (rSize W O B).1.length = N := by
        unfold rSize
        split
        · exact h1.len
        · split
          · exact h1.len
          · show (setAllW _ _ _).length = _
            rw [setAllW_len, setAllW_len]; exact h1.len
      have nilW : (rSize W O B).1 = [] ↔ W = [] := by
        rw [← List.length_eq_zero_iff, ← List.length_eq_zero_iff, len2, h1.len]
      have flw : ∀ b ∈ fl', H.next ≤ b ∧ b ≠ rp ∧ ((rSize W O B).1 = [] ∨ b ≠ RB) := fun b hb => by
        have hn := h1.ext.next
        rcases hfl' b hb with r | r
        · obtain ⟨r1, r2, r3, _⟩ := q1 b r
          exact ⟨r1, r2, r3.imp (fun q => nilW.2 q) id⟩
        · refine ⟨by omega, by omega, ?_⟩
          rcases rbl with q | q
          · exact .inl (nilW.2 q)
          · exact .inr (by omega)
      have hm : ∃ m : List Nat, (W = [] ∨ RB ∈ m) ∧ (∀ b ∈ m, b ∉ fl') ∧ (∀ b ∈ m, b = RB ∧ W ≠ []) := by
        by_cases c : W = []
        · exact ⟨[], .inl c, by simp, by simp⟩
        · refine ⟨[RB], .inr (by simp), fun b hb q => ?_, fun b hb => ⟨by simpa using hb, c⟩⟩
          simp at hb; subst hb
          exact (flw _ q).2.2.elim (fun r => c (nilW.1 r)) fun r => r rfl
      obtain ⟨m, m1, m2, m3⟩ := hm
      have e5 := e5 m m1
      have gp5 : G5.get po = _ := e5.get (by omega) (fun q => by
        obtain ⟨r1, r2⟩ := m3 _ q
        have := rbl.resolve_left r2
        omega) gp4
      have n5 := e5.next
      have h5 : Two H G5 p rp RB N (rSize W O B).1 (sizeP S O B).1 := by
        refine ⟨?_, ⟨fl', flw, p4.mono e5 m2⟩, r5, h1.lr, s2, i2, len2⟩
        refine (((h1.ext.mono (m' := fl ++ m) (by simp)).trans (e4.mono (by simp; exact fun b hb _ => .inl hb))).trans (e5.mono (by simp; exact fun b hb _ => .inr hb))).mono fun b hb hlt => ?_
        rcases List.mem_append.1 hb with q | q
        · have := (q1 b q).1; omega
        · have := (m3 b q).1
          have := h1.lr.2
          omega
      rw [s1]
      generalize (rSize W O B).1 = W2 at *
      generalize (sizeP S O B).1 = S2 at *
      have ef := h5.pw.free
      repeat (first | rw [outP_val] | rw [guardP_true] | rw [guardP_false] | rw [condP_true] | rw [dl] | rw [condP_false] | rw [boolIs_bool] | rw [boolIs_undef] | rw [beq_tt] | rw [beq_ff] | rw [Bool.not_true] | rw [Bool.not_false] | rw [outP_skip] | rw [w_pick_b] | rw [if_pos rfl] | rw [if_neg Bool.false_ne_true] | rw [w_fieldAddr_ptr] | rw [w_nil_ptr] | rw [Nat.zero_add] | rw [w_load_c] | rw [w_load_n] | rw [vO_some] | rw [w_store_c] | rw [w_not] | rw [w_lss] | rw [w_leq] | rw [w_gtr] | rw [w_geq] | rw [w_eql] | rw [w_neq] | rw [w_cint] | rw [w_min2_int] | rw [w_max2_int] | rw [w_add_in (by omega) (by omega)] | rw [w_sub_in (by omega) (by omega)] | rw [w_mul_in (by omega) (by omega)])
      rw [outP_enter]
      obtain ⟨fl5, w1, w2⟩ := h5.ex
      refine poolFree_wp w2 _ ?_
      repeat (first | rw [outP_val] | rw [guardP_true] | rw [guardP_false] | rw [condP_true] | rw [condP_false] | rw [boolIs_bool] | rw [boolIs_undef] | rw [beq_tt] | rw [beq_ff] | rw [Bool.not_true] | rw [Bool.not_false] | rw [outP_skip] | rw [w_pick_b] | rw [if_pos rfl] | rw [if_neg Bool.false_ne_true] | rw [w_fieldAddr_ptr] | rw [w_nil_ptr] | rw [Nat.zero_add] | rw [w_load_c] | rw [w_load_n] | rw [vO_some] | rw [w_store_c] | rw [w_not] | rw [w_lss] | rw [w_leq] | rw [w_gtr] | rw [w_geq] | rw [w_eql] | rw [w_neq] | rw [w_cint] | rw [w_min2_int] | rw [w_max2_int] | rw [w_add_in (by omega) (by omega)] | rw [w_sub_in (by omega) (by omega)] | rw [w_mul_in (by omega) (by omega)])
      rw [outP_enter]
      refine rFree_wp h5.rf (hWl h5) _ fun G6 e6 => ?_
      rw [ef]
      repeat (first | rw [outP_val] | rw [guardP_true] | rw [guardP_false] | rw [condP_true] | rw [dl] | rw [condP_false] | rw [boolIs_bool] | rw [boolIs_undef] | rw [beq_tt] | rw [beq_ff] | rw [Bool.not_true] | rw [Bool.not_false] | rw [outP_skip] | rw [w_pick_b] | rw [if_pos rfl] | rw [if_neg Bool.false_ne_true] | rw [w_fieldAddr_ptr] | rw [w_nil_ptr] | rw [Nat.zero_add] | rw [w_load_c] | rw [w_load_n] | rw [vO_some] | rw [w_store_c] | rw [w_not] | rw [w_lss] | rw [w_leq] | rw [w_gtr] | rw [w_geq] | rw [w_eql] | rw [w_neq] | rw [w_cint] | rw [w_min2_int] | rw [w_max2_int] | rw [w_add_in (by omega) (by omega)] | rw [w_sub_in (by omega) (by omega)] | rw [w_mul_in (by omega) (by omega)] | rw [outP_enter])
      have h6 := h5.mono e6
      have gp6 : G6.get po = _ := e6.get (by omega) (by simp) gp5
      have n6 := e6.next
      unfold m_fieldfarelaw7_PoolAlltttthtblthbttt
      rw [w_fieldAddr_ptr, outP_val, Nat.add_zero, w_load_c, l1 _ gp6, vO_some, outP_val, w_fieldAddr_ptr, outP_val, Nat.add_zero, w_load_c, l1 _ gp6, vO_some, outP_val, outP_enter]
      obtain ⟨fl6, w1, w2⟩ := h6.ex
      have lO := h6.inv.lenO O
      refine poolOf_wp w2 O (by omega) _ fun G7 l7 B7 e7 hB7 o7 => ?_
      have h7 := h6.mono e7
      have gp7 : G7.get po = _ := e7.get (by omega) (by simp) gp6
      rw [w_load_c, l1 _ gp7, vO_some, reC_val, ib, ckP_true, outP_enter]
      refine rOf_wp h7.rf (hWl h7) O _ fun G8 l8 B8 e8 hB8 o8 => ?_
      have h8 := h7.mono e8
      have o7 : Is .i64 G8 B7 l7 (S2.of O) := Sl.mono (Own.sl o7) e8 (by simp)
      have o8 : Is .i64 G8 B8 l8 (idxOf W2 O) := Own.sl o8
      rw [h8.pw.of O co] at o7
      have li := idx_len W2 O
      have lW := hWl h8
      generalize idxOf W2 O = Q at *
      have k7 := o7.len ints_sl
      have k8 := o8.len ints_sl
      unfold m_fieldfarelaw7_PoolAlltttthtblthbtttt
      repeat (first | rw [outP_val] | rw [guardP_true] | rw [guardP_false] | rw [condP_true] | rw [k7] | rw [k8] | rw [dl] | rw [condP_false] | rw [boolIs_bool] | rw [boolIs_undef] | rw [beq_tt] | rw [beq_ff] | rw [Bool.not_true] | rw [Bool.not_false] | rw [outP_skip] | rw [w_pick_b] | rw [if_pos rfl] | rw [if_neg Bool.false_ne_true] | rw [w_fieldAddr_ptr] | rw [w_nil_ptr] | rw [Nat.zero_add] | rw [w_load_c] | rw [w_load_n] | rw [vO_some] | rw [w_store_c] | rw [w_not] | rw [w_lss] | rw [w_leq] | rw [w_gtr] | rw [w_geq] | rw [w_eql] | rw [w_neq] | rw [w_cint] | rw [w_min2_int] | rw [w_max2_int] | rw [w_add_in (by omega) (by omega)] | rw [w_sub_in (by omega) (by omega)] | rw [w_mul_in (by omega) (by omega)] | rw [outP_enter])
      unfold m_fieldfarelaw7_PoolAlltttthtblthbttttt
      rw [k7, outP_val]
      unfold m_fieldfarelaw7_PoolAlltttthtblthbttttttb
      refine loopP_rule (I := fun t G => ∃ i : Nat, t = (s, .ptr (some (p, 0)), .ptr (some (rp, 0)), .int .i64 j, l7, l8, .int .i64 Q.length, .int .i64 i) ∧ i ≤ Q.length ∧ G = G8) (μ := fun t _ => match t.2.2.2.2.2.2.2 with | .int _ z => Q.length - z.toNat | _ => 0) ?_ ⟨0, rfl, Nat.zero_le _, rfl⟩
      rintro t G9 ⟨i, rfl, hi, rfl⟩ rec2 hrec2
      unfold m_fieldfarelaw7_PoolAlltttthtblthbttttttbl
      rw [w_lss, outP_val]
      by_cases ci : i < Q.length
      · obtain ⟨z1, a1, _, a3⟩ := o7.at ci
        obtain ⟨z2, b1, _, b3⟩ := o8.at ci
        rw [decide_eq_true (by omega), condP_true, a1, outP_val, w_load_c, a3, vO_some, outP_val, b1, outP_val, w_load_c, b3, vO_some, outP_val, w_neq, outP_val, dl, Bool.not_true, condP_false, w_add_in (by omega) (by omega), outP_val]
        refine hrec2 _ _ ⟨i + 1, by rfl, by omega, rfl⟩ ?_
        show Q.length - ((i : Int) + 1).toNat < Q.length - (i : Int).toNat
        omega
      · rw [decide_eq_false (by omega), condP_false]
        unfold m_fieldfarelaw7_PoolAlltttthtbltt
        rw [w_add_in (by omega) (by omega), outP_val]
        exact hrec _ _ ⟨j + 1, W2, S2, by rfl, by omega, h8⟩ dec
  · have fin : outP CC G (some (.enter 16 [.ptr (some (p, 0))])) fun v6 H6 => outP CC H6 (some (.enter 17 [.ptr (some (rp, 0))])) fun v7 H7 => outP CC H7 (w_int .eql H7 v6 v7) fun v8 H8 => K v8 H8 := by
      obtain ⟨fl, w1, w2⟩ := h0.ex
      rw [outP_enter]
      refine poolFree_wp w2 _ ?_
      rw [outP_enter]
      refine rFree_wp h0.rf (hWl h0) _ fun G6 e6 => ?_
      rw [h0.pw.free, w_eql, outP_val, dl]
      exact hK _ (h0.ext.trans e6)
    by_cases c : j < L.length
    · have d1 : decide ((j : Int) < (L.length : Int)) = true := decide_eq_true (by omega)
      have d2 : decide ((j : Int) < 40) = false := decide_eq_false (by omega)
      rw [boolIs_bool, beq_tt, d1, guardP_true, outP_val, guardP_true, w_lss, outP_val, d2, w_pick_b, outP_val, if_pos rfl, condP_false]
      exact fin
    · have d1 : decide ((j : Int) < (L.length : Int)) = false := decide_eq_false (by omega)
      rw [boolIs_bool, beq_tt, d1, guardP_false, guardP_false, w_pick_b, outP_val, if_neg Bool.false_ne_true, condP_false]
      exact fin
end
end Go.Ab
