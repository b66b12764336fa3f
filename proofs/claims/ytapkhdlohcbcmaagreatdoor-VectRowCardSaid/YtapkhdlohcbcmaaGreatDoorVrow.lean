/- fieldfarelaw7.VectRow: what it does, at any input. -/
import Derived.Test.YtapkhdlohcbcmaaGreatDoorBinG
import Derived.Test.YtapkhdlohcbcmaaGreatDoorN4
namespace Go.Ab
noncomputable section
open Go.Proofs
set_option maxRecDepth 10000
variable {H H' : AH}

def rowB (n : Int) (y : Vq) : List Int := encV (y.2.2.take 8) ++ encZ n
theorem vcut {b : Nat} {s : AV} {Y : List Vq} (h : Sl H 1 b s (vrow Y)) (n : Nat) (hn : n ≤ Y.length) : ∃ s', (∀ G : AH, w_slice (.sl 1) true false G s none (some (.int .i64 n)) none = some (.val s' G)) ∧ Sl H 1 b s' (vrow (Y.take n)) := by
  obtain ⟨s', h1, h2⟩ := Sl.cut h (hasHi := true) none (some (.i64, n)) (Nat.zero_le _) (show n ≤ (vrow Y).length by simpa using hn)
  refine ⟨s', h1, ?_⟩
  have e : (List.drop (loN 0 none) (vrow Y)).take (loN (vrow Y).length (some (.i64, n)) - loN 0 none) = vrow (Y.take n) := by
    show (List.drop 0 (vrow Y)).take (n - 0) = _
    rw [List.drop_zero, Nat.sub_zero, ← List.map_take]
  rw [e] at h2; exact h2
theorem rowB_le {n : Int} (hn : I64 n) {y : Vq} (hy : In32 y.2.2) : (rowB n y).length ≤ 100 := by
  unfold rowB encV
  have h1 := encZ_le hn
  have h2 := encs_le (V := y.2.2.take 8) fun x hx => hy x (List.mem_of_mem_take hx)
  have h3 := encZ_le (n := ((y.2.2.take 8).length : Int)) ⟨by omega, by rw [List.length_take]; omega⟩
  rw [List.length_take] at h2
  simp only [List.length_append]
  rw [List.length_take] at h3
  rw [List.length_take]
  omega
theorem rows_le {n : Int} (hn : I64 n) : ∀ {Y : List Vq}, (∀ y ∈ Y, In32 y.2.2) → (Y.flatMap (rowB n)).length ≤ 100 * Y.length
  | [], _ => by simp
  | y :: Y, h => by
    have ih := rows_le hn (Y := Y) fun z hz => h z (by simp [hz])
    have := rowB_le hn (h y (by simp))
    rw [List.flatMap_cons, List.length_append, List.length_cons]; omega
theorem encV_by {V : List Int} (hV : In32 V) (hl : V.length ≤ 100) : By (encV V) := fun x hx => by
  unfold encV at hx
  rcases List.mem_append.1 hx with q | q
  · exact enc_by (enc8 hl) x q
  · obtain ⟨z, hz, hx⟩ := List.mem_flatMap.1 q
    exact enc_by (in32_64 hV z hz) x hx
theorem rows_by {n : Int} (hn : I64 n) {Y : List Vq} (h : ∀ y ∈ Y, In32 y.2.2) : By (Y.flatMap (rowB n)) := fun x hx => by
  obtain ⟨y, hy, hx⟩ := List.mem_flatMap.1 hx
  rcases List.mem_append.1 hx with q | q
  · exact encV_by (fun z hz => h y hy z (List.mem_of_mem_take hz)) (by rw [List.length_take]; omega) x q
  · exact enc_by hn x q
theorem vectRow_wp {b : Nat} {s : AV} {Y0 : List Vq} {n : Int} (h : Sl H 1 b s (vrow Y0)) (hy0 : ∀ y ∈ Y0, VEl H y) (hn : I64 n) (hl : Laid H) (K : AV → AH → Prop) (hK : ∀ H', Ext [] H H' → K (.bool true) H') :
    CC.call 4 [s, .int .i64 n] H K := by
  refine m_fieldfarelaw7_VectRow_ok _ _ _ _ ?_
  unfold m_fieldfarelaw7_VectRow m_fieldfarelaw7_VectRowt
  rw [outP_enter]
  refine begun_wp hl _ ?_
  unfold m_fieldfarelaw7_VectRowtt
  rw [w_not, outP_val, Bool.not_true, condP_false]
  unfold m_fieldfarelaw7_VectRowttt
  rw [w_alloc_none, outP_val]
  have x1 : Ext [] H (H.new (.cells 31 [.slice none 0 0 true])) := (Ext.refl _ _).new _
  have w0 : Wx H (H.new (.cells 31 [.slice none 0 0 true])) H.next [] := ⟨x1, Nat.le_refl _, by rw [next_new]; omega, H.next + 1, _, get_new_same _ _, os_nil _ _ _, by omega, by omega⟩
  generalize H.new (.cells 31 [.slice none 0 0 true]) = G0 at *
  obtain ⟨sc, c1, c2⟩ := vcut h (min Y0.length 10) (Nat.min_le_left _ _)
  unfold m_fieldfarelaw7_VectRowtttt
  rw [vrow_len (Sl.mono h x1 (by simp)), outP_val, w_min2_int, outP_val, show min (Y0.length : Int) 10 = ((min Y0.length 10 : Nat) : Int) by omega, c1, outP_val]
  have hyY : ∀ y ∈ Y0.take (min Y0.length 10), VEl H y := fun y q => hy0 y (List.mem_of_mem_take q)
  have hYl : (Y0.take (min Y0.length 10)).length ≤ 10 := by rw [List.length_take]; omega
  generalize Y0.take (min Y0.length 10) = Y at *
  have i32 : ∀ y ∈ Y, In32 y.2.2 := fun y q => (hyY y q).in32
  have cutA : ∀ y ∈ Y, ∃ s', (∀ G : AH, w_slice (.sl 1) true false G y.1 none (some (.int .i64 ((min y.2.2.length 8 : Nat) : Int))) none = some (.val s' G)) ∧ Is .i32 H y.2.1 s' (y.2.2.take 8) := fun y q => by
    obtain ⟨s', q1, q2⟩ := (hyY y q).is.cut (min y.2.2.length 8) (Nat.min_le_left _ _)
    refine ⟨s', q1, ?_⟩
    have e : (y.2.2.take (min y.2.2.length 8)) = y.2.2.take 8 := by
      by_cases c : y.2.2.length ≤ 8
      · rw [Nat.min_eq_left c, List.take_of_length_le (Nat.le_refl _), List.take_of_length_le c]
      · rw [Nat.min_eq_right (by omega)]
    rw [e] at q2
    exact q2
  unfold m_fieldfarelaw7_VectRowttttth
  rw [vrow_len (Sl.mono c2 x1 (by simp)), outP_val]
  unfold m_fieldfarelaw7_VectRowttttthtb
  refine loopP_rule (I := fun t G => ∃ j : Nat, t = (sc, .int .i64 n, .ptr (some (H.next, 0)), .int .i64 Y.length, .int .i64 j) ∧ j ≤ Y.length ∧ Wx H G H.next ((Y.take j).flatMap (rowB n))) (μ := fun t _ => match t.2.2.2.2 with | .int _ z => Y.length - z.toNat | _ => 0) ?_ ⟨0, rfl, Nat.zero_le _, w0⟩
  rintro t G ⟨j, rfl, hj, w⟩ rec hrec
  unfold m_fieldfarelaw7_VectRowttttthtbl
  rw [w_lss, outP_val]
  have cG : Sl G 1 b sc (vrow Y) := Sl.mono c2 w.ext (by simp)
  by_cases cj : j < Y.length
  · obtain ⟨o, a1, _, a3⟩ := vrow_at cG cj
    have hv := hyY _ (List.getElem_mem cj)
    obtain ⟨s', q1, q2⟩ := cutA _ (List.getElem_mem cj)
    have lv := (hv.mono0 w.ext).is.len vec_sl
    have ll := rows_le hn (Y := Y.take j) fun y hy => i32 y (List.mem_of_mem_take hy)
    rw [List.length_take] at ll
    rw [decide_eq_true (by omega), condP_true, a1, outP_val, w_load_c, a3, vO_some, outP_val, a1, outP_val, w_load_c, a3, vO_some, outP_val, lv, outP_val, w_min2_int, outP_val, show min (Y[j].2.2.length : Int) 8 = ((min Y[j].2.2.length 8 : Nat) : Int) by omega, q1, outP_val, outP_enter]
    refine put_wp w (by omega) q2 (fun x hx => hv.in32 x (List.mem_of_mem_take hx)) (by rw [List.length_take]; omega) _ fun G1 w1 => ?_
    have l1 := rowB_le hn hv.in32
    unfold rowB at l1
    rw [List.length_append] at l1
    refine wOne_wp w1 (by rw [List.length_append]; omega) hn _ fun G2 w2 => ?_
    rw [w_add_in (by omega) (by omega), outP_val]
    refine hrec _ _ ⟨j + 1, by rfl, by omega, ?_⟩ ?_
    · rw [List.take_succ_eq_append_getElem cj, List.flatMap_append]
      rw [List.append_assoc] at w2
      simpa [rowB] using w2
    · show Y.length - ((j : Int) + 1).toNat < Y.length - (j : Int).toNat
      omega
  · rw [decide_eq_false (by omega), condP_false]
    rw [List.take_of_length_le (by omega)] at w
    have ll := rows_le hn i32
    have lb := rows_by hn i32
    unfold m_fieldfarelaw7_VectRowtttttt
    rw [outP_enter]
    refine wBytes_wp w (by omega) _ fun G1 sb Bb e1 hBb ob => ?_
    rw [outP_enter]
    refine newReader_wp ob.is lb (by omega) _ fun G2 rp r0 => ?_
    have e2 : Ext [] H G1 := w.ext.trans e1
    have cG2 : ∀ {G : AH} {B : List Int}, Rx G1 G rp B false → Sl G 1 b sc (vrow Y) := fun r => Sl.mono c2 (e2.trans r.ext) (by simp)
    unfold m_fieldfarelaw7_VectRowttttttth
    rw [vrow_len (cG2 r0), outP_val]
    unfold m_fieldfarelaw7_VectRowttttttthtb
    refine loopP_rule (I := fun t G => ∃ j : Nat, t = (sc, .int .i64 n, .ptr (some (rp, 0)), .int .i64 Y.length, .int .i64 j) ∧ j ≤ Y.length ∧ Rx G1 G rp ((Y.drop j).flatMap (rowB n)) false) (μ := fun t _ => match t.2.2.2.2 with | .int _ z => Y.length - z.toNat | _ => 0) ?_ ⟨0, rfl, Nat.zero_le _, by rw [List.drop_zero]; exact r0⟩
    rintro t G3 ⟨j2, rfl, hj2, r⟩ rec2 hrec2
    unfold m_fieldfarelaw7_VectRowttttttthtbl
    rw [w_lss, outP_val]
    have dl : ∀ z : Int, decide (z = z) = true := fun z => decide_eq_true rfl
    by_cases cj2 : j2 < Y.length
    · obtain ⟨o, a1, _, a3⟩ := vrow_at (cG2 r) cj2
      have hv := hyY _ (List.getElem_mem cj2)
      obtain ⟨s', q1, q2⟩ := cutA _ (List.getElem_mem cj2)
      have lv := hv.is.len vec_sl
      have ll2 := rows_le hn (Y := Y.drop j2) fun y hy => i32 y (List.mem_of_mem_drop hy)
      rw [List.length_drop] at ll2
      have ev : (Y.drop j2).flatMap (rowB n) = encV (Y[j2].2.2.take 8) ++ (encZ n ++ (Y.drop (j2 + 1)).flatMap (rowB n)) := by
        rw [List.drop_eq_getElem_cons cj2, List.flatMap_cons, rowB, List.append_assoc]
      have i8 : In32 (Y[j2].2.2.take 8) := fun x hx => hv.in32 x (List.mem_of_mem_take hx)
      have eg := getV_enc i8 (by rw [List.length_take]; omega) (encZ n ++ (Y.drop (j2 + 1)).flatMap (rowB n))
      rw [decide_eq_true (by omega), condP_true, a1, outP_val, w_load_c, a3, vO_some, outP_val, a1, outP_val, w_load_c, a3, vO_some, outP_val, lv, outP_val, w_min2_int, outP_val, show min (Y[j2].2.2.length : Int) 8 = ((min Y[j2].2.2.length 8 : Nat) : Int) by omega, q1, outP_val, outP_enter]
      refine get_wp r (by omega) _ fun G4 v4 B4 r4 hB4 o4 => ?_
      rw [ev, eg] at r4 o4
      simp only at r4 o4
      obtain ⟨o', a1', _, a3'⟩ := vrow_at (cG2 r4) cj2
      have ea : (b, o) = (b, o') := by
        have h1 := (a1 G4).symm.trans (a1' G4)
        simpa using h1
      obtain ⟨_, rfl⟩ := Prod.mk.inj ea
      have ib : ∀ (z : Int), AV.beq (.int .i64 z) (.int .i64 z) = true := fun z => by simp [AV.beq, eqZ_eq, kEq]
      rw [w_load_c, a3', vO_some, reC_val, beq_slk (Sl.slk hv.is), ckP_true, ckP_true, lv, reC_val, ib, ckP_true, outP_enter]
      refine vecEq_wp o4 (Sl.mono q2 (e2.trans r4.ext) (by simp)) (by rw [List.length_take]; omega) _ ?_
      rw [decide_eq_true rfl]
      repeat (first | rw [outP_val] | rw [guardP_true] | rw [guardP_false] | rw [condP_true] | rw [condP_false] | rw [boolIs_bool] | rw [boolIs_undef] | rw [beq_tt] | rw [beq_ff] | rw [Bool.not_true] | rw [Bool.not_false] | rw [outP_skip] | rw [w_pick_b] | rw [if_pos rfl] | rw [if_neg Bool.false_ne_true] | rw [w_fieldAddr_ptr] | rw [w_nil_ptr] | rw [Nat.zero_add] | rw [w_load_c] | rw [w_load_n] | rw [vO_some] | rw [w_store_c] | rw [w_not] | rw [w_lss] | rw [w_leq] | rw [w_gtr] | rw [w_geq] | rw [w_eql] | rw [w_neq] | rw [w_cint] | rw [w_min2_int] | rw [w_max2_int] | rw [w_add_in (by omega) (by omega)] | rw [w_sub_in (by omega) (by omega)] | rw [w_mul_in (by omega) (by omega)])
      rw [outP_enter]
      have es : stepR (encZ n ++ (Y.drop (j2 + 1)).flatMap (rowB n), false) = (n, ((Y.drop (j2 + 1)).flatMap (rowB n), false)) := by simp only [stepR, dec_enc hn]
      have lr : (encZ n ++ (Y.drop (j2 + 1)).flatMap (rowB n)).length ≤ 100000 := by
        have := congrArg List.length ev
        rw [List.length_append] at this
        omega
      refine rInt_wp r4 lr _ fun G5 e5 r5 _ => ?_
      rw [es] at r5 ⊢
      repeat (first | rw [outP_val] | rw [guardP_true] | rw [guardP_false] | rw [condP_true] | rw [dl] | rw [condP_false] | rw [boolIs_bool] | rw [boolIs_undef] | rw [beq_tt] | rw [beq_ff] | rw [Bool.not_true] | rw [Bool.not_false] | rw [outP_skip] | rw [w_pick_b] | rw [if_pos rfl] | rw [if_neg Bool.false_ne_true] | rw [w_fieldAddr_ptr] | rw [w_nil_ptr] | rw [Nat.zero_add] | rw [w_load_c] | rw [w_load_n] | rw [vO_some] | rw [w_store_c] | rw [w_not] | rw [w_lss] | rw [w_leq] | rw [w_gtr] | rw [w_geq] | rw [w_eql] | rw [w_neq] | rw [w_cint] | rw [w_min2_int] | rw [w_max2_int] | rw [w_add_in (by omega) (by omega)] | rw [w_sub_in (by omega) (by omega)] | rw [w_mul_in (by omega) (by omega)] | rw [outP_enter])
      refine hrec2 _ _ ⟨j2 + 1, by rfl, by omega, r5⟩ ?_
      show Y.length - ((j2 : Int) + 1).toNat < Y.length - (j2 : Int).toNat
      omega
    · rw [decide_eq_false (by omega), condP_false, outP_enter]
      rw [List.drop_eq_nil_of_le (by omega)] at r
      refine end_wp r _ ?_
      rw [if_pos ⟨rfl, rfl⟩, w_eql, outP_val, dl]
      exact hK _ (e2.trans r.ext)
end
end Go.Ab
