/- The document's bests: one is put in; scores; who is nearest, in which order. -/
import Derived.Test.YtjpjmeidpjjgdaaGreatDoorPutL
import Derived.Test.YtjpjmeidpjjgdaaGreatDoorMids
import Derived.Test.YtjpjmeidpjjgdaaGreatDoorMRmd
namespace Go.Ab
noncomputable section
open Go.Proofs
set_option maxRecDepth 10000
variable {H H' : AH}

theorem hit_el : elT PP 61 = some (2, [.int .i64 0, .int .i64 0]) := by kernel_rfl
theorem bs_one (x : Int × Int) (b : Nat) : w_buildSlice PP 61 1 H [(0, .agg [.int .i64 x.1, .int .i64 x.2])] (some b) = some (.val (.slice (some (b, 0)) 1 1 true) (H.put b (some (.cells 61 [.int .i64 x.1, .int .i64 x.2])))) := by
  have h1 : Nat.ble (1 * 2) 16777216 = true := rfl
  have h2 : fillA (fun i => some (i * 2, 2)) [(0, AV.agg [.int .i64 x.1, .int .i64 x.2])] (reps 1 [AV.int IntKind.i64 0, AV.int IntKind.i64 0]) = some [.int .i64 x.1, .int .i64 x.2] := rfl
  have h3 : allB (fun x : Nat × AV => allB AV.one x.2.parts) [(0, .agg [.int .i64 x.1, .int .i64 x.2])] = true := rfl
  simp only [w_buildSlice, oBuildSlice, hit_el, h1, h2, h3, br_true, val_mk, ob_some, newSlice, newTo_some_eq]
theorem Hs.at1 {b : Nat} {s : AV} {L : List (Int × Int)} (h : Hs H b s L) {j : Nat} (hj : j < L.length) : ∃ o, (∀ G : AH, w_indexAddr (.sl 2) G s (.int .i64 j) = some (.val (.ptr (some (b, o))) G)) ∧ b < H.next ∧ ldV (H.get b) o = some (.int .i64 L[j].1) ∧ ldV (H.get b) (o + 1) = some (.int .i64 L[j].2) := by
  obtain ⟨o, h1, h2, h3⟩ := Sl.at h (j := j) (by simpa using hj) .i64
  have e : (L.map hitL)[j]'(by simpa using hj) = hitL L[j] := by simp
  rw [e] at h3
  exact ⟨o, h1, h2, ldV_of (h3 0 _ rfl) rfl rfl, ldV_of (h3 1 _ rfl) rfl rfl⟩
theorem push_hits {B b : Nat} {s y : AV} {L M : List (Int × Int)} (ho : Own H 61 2 B s (L.map hitL)) (hy : Hs H b y M) (hL : L.length + M.length ≤ 1000) (K : AV → AH → Prop)
    (hK : ∀ H' s' B', Ext [B] H H' → (B' = B ∨ H.next ≤ B') → Own H' 61 2 B' s' ((L ++ M).map hitL) → K s' H') : outP CC H (w_append 61 2 16 H s y none) K := by
  obtain ⟨s', H', B', e1, e2, e3, e4⟩ := ho.append (by_ := 16) hy (by omega) (by simp only [List.length_map]; omega)
  exact st e1 (hK _ _ B' e2 e3 (by rw [List.map_append]; exact e4))
theorem refLess_wp (x y : Int × Int) (H : AH) (K : AV → AH → Prop) (hK : ∀ H', Ext [] H H' → K (.bool (lessB x y)) H') : CC.call 86 [hitA x, hitA y] H K := by
  refine m_fieldfareref1_Less_ok _ _ _ _ ?_
  unfold m_fieldfareref1_Less hitA hitL
  have hx : Ext [] H ((H.new (.cells 61 [.int .i64 x.1, .int .i64 x.2])).new (.cells 61 [.int .i64 y.1, .int .i64 y.2])) := ((Ext.refl _ _).new _).new _
  have key := lessB_iff x y
  by_cases c1 : x.2 < y.2
  · have d1 : decide (x.2 < y.2) = true := by simpa using c1
    have e : lessB x y = true := key.2 (.inl c1)
    simp (disch := first | omega | exact one_int _ _ | exact one_slice _ _ _ _ | exact one_ptr _ | assumption | ((repeat (first | rw [next_new] | rw [AH.next_put] | rw [next_more])) <;> omega) | fail) only [outP_val, w_fieldAddr_ptr, w_load_c, get_new_eq, get_new_ne, next_new, ldV_cells, 
      vO_some, Nat.zero_add, Nat.add_zero, List.getElem?_cons_zero, List.getElem?_cons_succ, ob_some, clearA_int, w_box_c, parts_agg, 
      one_int, List.all_cons, List.all_nil, Bool.and_self, br_true, w_lss, w_pick_b, 
      boolIs_bool, guardP_false, beq_ff, Bool.not_true, 
      if_true, d1]
    have := hK _ hx; rw [e] at this; exact this
  · have d1 : decide (x.2 < y.2) = false := by simpa using c1
    by_cases c2 : x.2 = y.2
    · have d2 : decide (x.2 = y.2) = true := by simpa using c2
      have e : lessB x y = decide (x.1 < y.1) := by rw [Bool.eq_iff_iff, key, decide_eq_true_iff]; omega
      simp (disch := first | omega | exact one_int _ _ | exact one_slice _ _ _ _ | exact one_ptr _ | assumption | ((repeat (first | rw [next_new] | rw [AH.next_put] | rw [next_more])) <;> omega) | fail) only [outP_val, w_fieldAddr_ptr, w_load_c, get_new_eq, get_new_ne, next_new, ldV_cells, 
      vO_some, Nat.zero_add, Nat.add_zero, List.getElem?_cons_zero, List.getElem?_cons_succ, ob_some, clearA_int, w_box_c, parts_agg, 
      one_int, List.all_cons, List.all_nil, Bool.and_self, br_true, w_eql, w_lss, w_pick_b, 
      boolIs_bool, guardP_true, beq_tt, beq_ff, 
      Bool.not_false, if_true, if_false, Bool.false_eq_true, d1, d2]
      have := hK _ hx; rw [e] at this; exact this
    · have d2 : decide (x.2 = y.2) = false := by simpa using c2
      have e : lessB x y = false := by
        cases q : lessB x y with
        | false => rfl
        | true => have := key.1 q; omega
      simp (disch := first | omega | exact one_int _ _ | exact one_slice _ _ _ _ | exact one_ptr _ | assumption | ((repeat (first | rw [next_new] | rw [AH.next_put] | rw [next_more])) <;> omega) | fail) only [outP_val, w_fieldAddr_ptr, w_load_c, get_new_eq, get_new_ne, next_new, ldV_cells, 
      vO_some, Nat.zero_add, Nat.add_zero, List.getElem?_cons_zero, List.getElem?_cons_succ, ob_some, clearA_int, w_box_c, parts_agg, 
      one_int, List.all_cons, List.all_nil, Bool.and_self, br_true, w_eql, w_lss, w_pick_b, 
      boolIs_bool, guardP_true, guardP_false, beq_tt, beq_ff, 
      Bool.not_false, if_false, Bool.false_eq_true, d1, d2]
      have := hK _ hx; rw [e] at this; exact this
theorem take_min {α : Type} {M : List α} {n k : Nat} (h : M.length = n) : M.take (min n k) = M.take k := by
  rcases Nat.le_total n k with q | q
  · rw [Nat.min_eq_left q, List.take_of_length_le (Nat.le_of_eq h), List.take_of_length_le (by omega)]
  · rw [Nat.min_eq_right q]
theorem beq_hit (a b : Int) : AV.beq (.agg [.int .i64 a, .int .i64 b]) (.agg [.int .i64 a, .int .i64 b]) = true := by
  simp [AV.beq, AV.beqL, eqZ_eq, kEq]
theorem putBest_wp {b : Nat} {s : AV} {L : List (Int × Int)} (hs : Hs H b s L) (hL : L.length ≤ 100) {kk : Nat} (hk : L.length ≤ kk) (hso : Sorted L) (h : Int × Int) (K : AV → AH → Prop)
    (hK : ∀ H' s' b', Ext [] H H' → (b' = b ∧ (putL kk L h).2 = false ∨ H.next ≤ b') → Hs H' b' s' (putL kk L h).1 → K (.tup [s', .bool (putL kk L h).2]) H') : CC.call 59 [.int .i64 kk, s, hitA h] H K := by
  refine m_fieldfareref1_PutBest_ok _ _ _ _ _ ?_
  unfold m_fieldfareref1_PutBest hitA hitL
  have hx : Ext [] H (H.new (.cells 61 [.int .i64 h.1, .int .i64 h.2])) := (Ext.refl _ _).new _
  have hv0 : (H.new (.cells 61 [.int .i64 h.1, .int .i64 h.2])).get H.next = some (.cells 61 [.int .i64 h.1, .int .i64 h.2]) := get_new_same _ _
  have hn0 : H.next < (H.new (.cells 61 [.int .i64 h.1, .int .i64 h.2])).next := by rw [next_new]; omega
  have hs0 : Hs (H.new (.cells 61 [.int .i64 h.1, .int .i64 h.2])) b s L := hs.mono hx (by simp)
  simp (disch := first | omega | exact one_int _ _ | exact one_slice _ _ _ _ | exact one_ptr _ | assumption | ((repeat (first | rw [next_new] | rw [AH.next_put] | rw [next_more])) <;> omega) | fail) only [outP_val, 
      w_box_c, parts_agg, 
      one_int, List.all_cons, List.all_nil, Bool.and_self, br_true 
      
      ]
  generalize hG0 : H.new (.cells 61 [.int .i64 h.1, .int .i64 h.2]) = G0 at *
  have hlen := hs0.len
  unfold m_fieldfareref1_PutBestth m_fieldfareref1_PutBestthtb
  rw [hlen, outP_val]
  refine loopP_rule (I := fun t G => ∃ j : Nat, t = (.int .i64 kk, s, .ptr (some (H.next, 0)), .int .i64 L.length, .int .i64 j) ∧ j ≤ L.length ∧ G = G0 ∧ ∀ x ∈ L.take j, x.1 ≠ h.1) (μ := fun t _ => match t.2.2.2.2 with | .int _ z => L.length - z.toNat | _ => 0) ?_ ⟨0, rfl, Nat.zero_le _, rfl, fun x hx => by simp at hx⟩
  rintro t G ⟨j, rfl, hj, rfl, hno⟩ rec hrec
  unfold m_fieldfareref1_PutBestthtbl
  by_cases cj : j < L.length
  · have d1 : decide ((j : Int) < (L.length : Int)) = true := by simpa using cj
    obtain ⟨o, a1, a2, a3, _⟩ := hs0.at1 cj
    simp (disch := first | omega | exact one_int _ _ | exact one_slice _ _ _ _ | exact one_ptr _ | assumption | ((repeat (first | rw [next_new] | rw [AH.next_put] | rw [next_more])) <;> omega) | fail) only [outP_val, w_fieldAddr_ptr, w_load_c, ldV_cells, 
      vO_some, Nat.add_zero, List.getElem?_cons_zero, ob_some, clearA_int, 
      w_eql, w_lss, w_add, wrap64_in, 
      condP_dec, condP_true, 
      d1, a1, a3, hv0]
    refine ⟨fun e => ?_, fun e => ?_⟩
    · have e2 : putL kk L h = (L, false) := by
        unfold putL; rw [if_pos (List.any_eq_true.2 ⟨L[j], List.getElem_mem cj, by simpa using e⟩)]
      have := hK G s b hx (.inl ⟨rfl, by rw [e2]⟩)
      rw [e2] at this
      exact this hs0
    · refine hrec _ _ ⟨j + 1, by rfl, by omega, rfl, fun x hx => ?_⟩ ?_
      · rw [List.take_succ_eq_append_getElem cj, List.mem_append] at hx
        rcases hx with hx | hx
        · exact hno x hx
        · simp at hx; subst hx; exact e
      · show L.length - ((j : Int) + 1).toNat < L.length - (j : Int).toNat
        omega
  · have d1 : decide ((j : Int) < (L.length : Int)) = false := by simpa using cj
    have hid : ∀ x ∈ L, x.1 ≠ h.1 := by rw [List.take_of_length_le (by omega)] at hno; exact hno
    simp (disch := first | omega | exact one_int _ _ | exact one_slice _ _ _ _ | exact one_ptr _ | assumption | ((repeat (first | rw [next_new] | rw [AH.next_put] | rw [next_more])) <;> omega) | fail) only [outP_val, w_fieldAddr_ptr, w_load_c, 
      Nat.add_zero, 
      w_lss, w_add, wrap64_in, 
      condP_false, 
      d1]
    -- it is put in
    have ins : ∀ (hk0 : 0 < kk), (∀ q : kk ≤ L.length, lessB h (L[L.length - 1]'(by omega)) = true) → ∀ G1, Ext [] G G1 → m_fieldfareref1_PutBestttt K (.int .i64 kk) s (.ptr (some (H.next, 0))) G1 := by
      intro hk0 hlast G1 x1
      have hput := putL_in (L := L) (h := h) hk0 hk hid hlast
      unfold m_fieldfareref1_PutBestttt m_fieldfareref1_PutBesttttthb
      refine loopP_rule (I := fun t G2 => ∃ j : Nat, t = (.int .i64 kk, s, .ptr (some (H.next, 0)), .int .i64 j) ∧ j ≤ L.length ∧ Ext [] G G2 ∧ ∀ i (hi : i < L.length), i < j → lessB h L[i] = false) (μ := fun t _ => match t.2.2.2 with | .int _ z => L.length - z.toNat | _ => 0) ?_ ⟨0, rfl, Nat.zero_le _, x1, fun i hi q => absurd q (by omega)⟩
      rintro t G2 ⟨i, rfl, hi, x2, hle⟩ rec2 hrec2
      unfold m_fieldfareref1_PutBesttttthbl
      have hv2 := x2.get hn0 (by simp) hv0
      have hs2 : Hs G2 b s L := Sl.mono hs0 x2 (by simp)
      -- the last part
      have tail : ∀ G3 : AH, Ext [] G2 G3 → posR L h = i → outP CC (G3.more 1) (w_slice (.sl 2) true false (G3.more 1) s none (some (.int .i64 i)) none) fun v12 H12 =>
          outP CC H12 (vO H12 (ldN 2 (H12.get H.next) 0)) fun v13 H13 =>
          outP CC H13 (w_slice (.sl 2) false false H13 s (some (.int .i64 i)) none none) fun v14 H14 =>
          outP CC H14 (w_append 61 2 16 H14 (.slice none 0 0 true) v12 none) fun v15 H15 =>
          ckP (reC true (vO H15 (ldN 2 (H15.get H.next) 0)) v13)
          (outP CC H15 (w_buildSlice PP 61 1 H15 [(0, v13)] (some G3.next)) fun v16 H16 =>
          outP CC H16 (w_append 61 2 16 H16 v15 v16 none) fun v17 H17 =>
          outP CC H17 (w_append 61 2 16 H17 v17 v14 none) fun v18 H18 =>
          outP CC H18 (w_len PP 62 H18 v18) fun v19 H19 =>
          outP CC H19 (w_min2 H19 v19 (.int .i64 kk)) fun v20 H20 =>
          outP CC H20 (w_slice (.sl 2) true false H20 v18 none (some v20) none) fun v21 H21 =>
          K (.tup [v21, (.bool true)]) H21) := by
        intro G3 x3 hpos
        rw [hpos] at hput
        have n2 := x2.next
        have n3 := x3.next
        have hs3 : Hs (G3.more 1) b s L := (hs2.mono x3 (by simp)).mono ((Ext.refl [] _).more 1) (by simp)
        obtain ⟨s12, c1, hs12⟩ := Sl.cut hs3 (hasHi := true) none (some (.i64, i)) (Nat.zero_le _) (show i ≤ (L.map hitL).length by simpa using hi)
        refine st (c1 _) ?_
        have hs12 : Hs (G3.more 1) b s12 (L.take i) := by
          have e : (List.drop (loN 0 none) (L.map hitL)).take (loN (L.map hitL).length (some (.i64, i)) - loN 0 none) = (L.take i).map hitL := by
            show (List.drop 0 (L.map hitL)).take (i - 0) = _
            rw [List.drop_zero, Nat.sub_zero, List.map_take]
          rw [e] at hs12; exact hs12
        have hv3 : G3.get H.next = _ := x3.get (Nat.lt_of_lt_of_le hn0 n2) (by simp) hv2
        rw [get_more, hv3, ldN_pair, vO_some, outP_val]
        obtain ⟨s17, c2, hs17⟩ := Sl.cut hs3 (hasHi := false) (some (.i64, i)) none (show i ≤ (L.map hitL).length by simpa using hi) (Nat.le_refl _)
        refine st (c2 _) ?_
        have hs17 : Hs (G3.more 1) b s17 (L.drop i) := by
          have e : (List.drop (loN 0 (some (.i64, i))) (L.map hitL)).take (loN (L.map hitL).length none - loN 0 (some (.i64, i))) = (L.drop i).map hitL := by
            show (List.drop i (L.map hitL)).take ((L.map hitL).length - i) = _
            rw [List.take_of_length_le (by rw [List.length_drop]; omega), List.map_drop]
          rw [e] at hs17; exact hs17
        refine push_hits (L := []) (B := (G3.more 1).next) (Own.nil _ _ _ _) hs12 (by simp; omega) _ fun G4 s13 B4 x4 hB4 o4 => ?_
        rw [next_more] at x4 hB4
        have n4' := x4.next
        rw [next_more] at n4'
        have x4' : Ext [] G3 G4 := (((Ext.refl [] G3).more 1).mono (m' := [G3.next + 1]) (by simp)).trans x4 |>.mono fun b hb hlt => by simp at hb; omega
        have hlow3 := hs3.low
        have hv4 := x4'.get (Nat.lt_of_lt_of_le (Nat.lt_of_lt_of_le hn0 n2) n3) (by simp) hv3
        have hs17' : Hs G4 b s17 (L.drop i) := Sl.mono' hs17 x4 (fun q => by
          rcases hlow3 with r | r
          · rw [next_more] at r; simp at q; omega
          · have : L = [] := by simpa using r
            rw [this]; simp)
        rw [hv4, ldN_pair, vO_some, reC_val, beq_hit, ckP_true]
        have x5 : Ext [] G3 (G4.put G3.next (some (.cells 61 [.int .i64 h.1, .int .i64 h.2]))) := x4'.put (.inl (Nat.le_refl _)) _
        refine st (bs_one h _) ?_
        have o5 : Own (G4.put G3.next (some (.cells 61 [.int .i64 h.1, .int .i64 h.2]))) 61 2 G3.next (.slice (some (G3.next, 0)) 1 1 true) ([h].map hitL) :=
          ⟨.inr ⟨0, 1, true, _, rfl, get_put_same _ _, Nat.le_refl _, Nat.le_refl _, fun q => (by cases q), rfl, by rw [AH.next_put]; omega⟩, by simp [hitL], by simp [hitL, AV.known], by simp [hitL, AV.one]⟩
        have hB4' : B4 ≠ G3.next := by omega
        have o4' : Own (G4.put G3.next (some (.cells 61 [.int .i64 h.1, .int .i64 h.2]))) 61 2 B4 s13 (([] ++ L.take i).map hitL) := o4.mono ((Ext.refl [G3.next] _).put (.inr (by simp)) _) (by simp; exact hB4')
        have hlow : b < G3.next ∨ L = [] := by
          rcases (hs2.mono x3 (m := []) (by simp)).low with r | r
          · exact .inl r
          · exact .inr (by simpa using r)
        have hs5 : Hs (G4.put G3.next (some (.cells 61 [.int .i64 h.1, .int .i64 h.2]))) b s17 (L.drop i) := Sl.mono' hs17' ((Ext.refl [G3.next] _).put (.inr (by simp)) _) (fun q => by
          rcases hlow with r | r
          · simp at q; omega
          · rw [r]; simp)
        generalize hG5 : G4.put G3.next (some (.cells 61 [.int .i64 h.1, .int .i64 h.2])) = G5 at *
        have n5 : G5.next = G4.next := by rw [← hG5, AH.next_put]
        refine push_hits o4' o5.sl (by simp; omega) _ fun G6 s16 B6 x6 hB6 o6 => ?_
        rw [List.nil_append] at o6
        have n6 := x6.next
        have hs17 : Hs G6 b s17 (L.drop i) := Sl.mono' hs5 x6 (fun q => by
          rcases hlow with r | r
          · simp at q; omega
          · rw [r]; simp)
        refine push_hits o6 hs17 (by simp; omega) _ fun G7 s18 B7 x7 hB7 o7 => ?_
        have e7 : L.take i ++ [h] ++ L.drop i = L.take i ++ h :: L.drop i := by simp
        rw [e7] at o7
        have l7 := Hs.len (o7.sl : Hs G7 B7 s18 (L.take i ++ h :: L.drop i))
        have ll : (L.take i ++ h :: L.drop i).length = L.length + 1 := by rw [List.length_append, List.length_cons, List.length_take, List.length_drop]; omega
        rw [l7, outP_val, w_min2_int, outP_val]
        have hmin : min (((L.take i ++ h :: L.drop i).length : Nat) : Int) (kk : Int) = ((min (L.length + 1) kk : Nat) : Int) := by rw [ll]; omega
        rw [hmin]
        obtain ⟨s21, c3, hs21⟩ := Sl.cut o7.sl (hasHi := true) none (some (.i64, min (L.length + 1) kk)) (Nat.zero_le _) (show min (L.length + 1) kk ≤ ((L.take i ++ h :: L.drop i).map hitL).length by rw [List.length_map, ll]; omega)
        refine st (c3 _) ?_
        have hs21 : Hs G7 B7 s21 (putL kk L h).1 := by
          have e : (List.drop (loN 0 none) ((L.take i ++ h :: L.drop i).map hitL)).take (loN ((L.take i ++ h :: L.drop i).map hitL).length (some (.i64, min (L.length + 1) kk)) - loN 0 none) = ((L.take i ++ h :: L.drop i).take kk).map hitL := by
            show (List.drop 0 ((L.take i ++ h :: L.drop i).map hitL)).take (min (L.length + 1) kk - 0) = _
            rw [List.drop_zero, Nat.sub_zero, ← List.map_take]
            rw [take_min ll]
          rw [e] at hs21
          rw [hput]; exact hs21
        have hfin := hK G7 s21 B7 ?_ (.inr ?_) hs21
        · rw [hput] at hfin; exact hfin
        · have n0 := hx.next
          refine (((hx.trans (x2.trans x3)).trans x5).mono (m' := [B4, B6]) (by simp)).trans ((x6.mono (by simp)).trans (x7.mono (by simp))) |>.mono fun b hb hlt => ?_
          simp at hb; omega
        · have n0 := hx.next
          omega
      by_cases ci : i < L.length
      · have d2 : decide ((i : Int) < (L.length : Int)) = true := by simpa using ci
        obtain ⟨o, b1, b2, b3⟩ := Hs.at hs2 ci
        unfold hitA hitL at b3
        have l2 := hs2.len
        simp (disch := first | omega | exact one_int _ _ | exact one_slice _ _ _ _ | exact one_ptr _ | assumption | ((repeat (first | rw [next_new] | rw [AH.next_put] | rw [next_more])) <;> omega) | fail) only [outP_val, outP_enter, w_load_n, 
      ldN_pair, vO_some, Nat.add_zero, 
      w_lss, w_pick_b, w_add, wrap64_in, 
      boolIs_bool, guardP_true, beq_tt, 
      if_true, nat_add, l2, d2, hv2, b1, b3]
        refine refLess_wp h L[i] _ _ fun G3 x3 => ?_
        cases hl : lessB h L[i] with
        | false =>
          simp (disch := first | omega | exact one_int _ _ | exact one_slice _ _ _ _ | exact one_ptr _ | assumption | ((repeat (first | rw [next_new] | rw [AH.next_put] | rw [next_more])) <;> omega) | fail) only [outP_val, 
      w_not, 
      condP_true, 
      Bool.not_false ]
          refine hrec2 _ _ ⟨i + 1, by rfl, by omega, x2.trans x3, fun q hq hqi => ?_⟩ ?_
          · rcases Nat.lt_or_ge q i with r | r
            · exact hle q hq r
            · have : q = i := by omega
              subst this; exact hl
          · show L.length - ((i : Int) + 1).toNat < L.length - (i : Int).toNat
            omega
        | true =>
          simp (disch := first | omega | exact one_int _ _ | exact one_slice _ _ _ _ | exact one_ptr _ | assumption | ((repeat (first | rw [next_new] | rw [AH.next_put] | rw [next_more])) <;> omega) | fail) only [outP_val, 
      w_not, 
      condP_false, Bool.not_true 
      ]
          exact tail G3 x3 (posR_at hi (fun q hq => hle q (by omega) hq) (fun _ => hl))
      · have d2 : decide ((i : Int) < (L.length : Int)) = false := by simpa using ci
        have l2 := hs2.len
        simp (disch := first | omega | exact one_int _ _ | exact one_slice _ _ _ _ | exact one_ptr _ | assumption | ((repeat (first | rw [next_new] | rw [AH.next_put] | rw [next_more])) <;> omega) | fail) only [outP_val, w_load_n, 
      Nat.add_zero, 
      w_lss, w_pick_b, w_add, wrap64_in, 
      condP_false, boolIs_bool, guardP_false, beq_tt, 
      if_false, Bool.false_eq_true, nat_add, l2, d2]
        exact tail G2 (Ext.refl _ _) (posR_at hi (fun q hq => hle q (by omega) hq) (fun q => absurd q ci))
    unfold m_fieldfareref1_PutBesttt
    by_cases c0 : (kk : Int) ≤ 0
    · have d2 : decide ((kk : Int) ≤ 0) = true := by simpa using c0
      have e2 : putL kk L h = (L, false) := by
        unfold putL
        rw [if_neg, if_pos (by omega)]
        intro q
        obtain ⟨x, hx, hx'⟩ := List.any_eq_true.1 q
        exact hid x hx (by simpa using hx')
      simp (disch := first | omega | exact one_int _ _ | exact one_slice _ _ _ _ | exact one_ptr _ | assumption | ((repeat (first | rw [next_new] | rw [AH.next_put] | rw [next_more])) <;> omega) | fail) only [outP_val, w_load_n, 
      w_leq, w_pick_b, 
      condP_true, boolIs_bool, guardP_false, beq_ff, Bool.not_true, 
      if_true, d2]
      have := hK G s b hx (.inl ⟨rfl, by rw [e2]⟩)
      rw [e2] at this
      exact this hs0
    · have d2 : decide ((kk : Int) ≤ 0) = false := by simpa using c0
      by_cases c1 : kk ≤ L.length
      · have d3 : decide ((kk : Int) ≤ (L.length : Int)) = true := by simpa using c1
        have hl1 : ((L.length : Nat) : Int) - 1 = ((L.length - 1 : Nat) : Int) := by omega
        obtain ⟨o, b1, b2, b3⟩ := Hs.at hs0 (j := L.length - 1) (by omega)
        unfold hitA hitL at b3
        simp (disch := first | omega | exact one_int _ _ | exact one_slice _ _ _ _ | exact one_ptr _ | assumption | ((repeat (first | rw [next_new] | rw [AH.next_put] | rw [next_more])) <;> omega) | fail) only [outP_val, outP_enter, w_load_n, 
      ldN_pair, vO_some, 
      w_leq, w_geq, w_pick_b, w_sub, wrap64_in, 
      boolIs_bool, guardP_true, beq_tt, beq_ff, 
      Bool.not_false, if_true, if_false, Bool.false_eq_true, d2, hlen, d3, hl1, b1, b3, hv0]
        refine refLess_wp h L[L.length - 1] _ _ fun G1 x1 => ?_
        cases hl : lessB h L[L.length - 1] with
        | false =>
          have e2 := putL_full (k := kk) hso (by omega) c1 hid hl
          simp (disch := first | omega | exact one_int _ _ | exact one_slice _ _ _ _ | exact one_ptr _ | assumption | ((repeat (first | rw [next_new] | rw [AH.next_put] | rw [next_more])) <;> omega) | fail) only [outP_val, 
      w_not, 
      condP_true, 
      Bool.not_false ]
          have := hK G1 s b (hx.trans x1) (.inl ⟨rfl, by rw [e2]⟩)
          rw [e2] at this
          exact this (hs0.mono x1 (by simp))
        | true =>
          simp (disch := first | omega | exact one_int _ _ | exact one_slice _ _ _ _ | exact one_ptr _ | assumption | ((repeat (first | rw [next_new] | rw [AH.next_put] | rw [next_more])) <;> omega) | fail) only [outP_val, 
      w_not, 
      condP_false, Bool.not_true 
      ]
          exact ins (by omega) (fun _ => hl) G1 x1
      · have d3 : decide ((kk : Int) ≤ (L.length : Int)) = false := by simp; omega
        simp (disch := first | omega | exact one_int _ _ | exact one_slice _ _ _ _ | exact one_ptr _ | assumption | ((repeat (first | rw [next_new] | rw [AH.next_put] | rw [next_more])) <;> omega) | fail) only [outP_val, w_load_n, 
      w_leq, w_geq, w_pick_b, 
      condP_false, boolIs_bool, guardP_true, guardP_false, beq_tt, beq_ff, 
      Bool.not_false, if_false, Bool.false_eq_true, d2, hlen, d3]
        exact ins (by omega) (fun q => absurd q c1) G (Ext.refl _ _)
theorem w_ext0 (x y : AV) : w_extract 0 H (.tup [x, y]) = some (.val x H) := rfl
theorem w_ext1 (x y : AV) : w_extract 1 H (.tup [x, y]) = some (.val y H) := rfl
theorem rScore_wp {b1 b2 : Nat} {s1 s2 : AV} {A B : List Int} (h1 : Is .i32 H b1 s1 A) (h2 : Is .i32 H b2 s2 B) (hA : In32 A) (hB : In32 B) (hl : A.length ≤ 1000000 ∨ B.length ≤ 1000000) (m : Int) (K : AV → AH → Prop)
    (hK : K (.int .i64 (scoreZ m A B)) H) : CC.call 60 [.int .i64 m, s1, s2] H K := by
  refine m_fieldfareref1_Score_ok _ _ _ _ _ ?_
  unfold m_fieldfareref1_Score m_fieldfareref1_Scoret m_fieldfareref1_Scoretth m_fieldfareref1_Scoretthtb
  refine loopP_rule (I := fun t G => ∃ j : Nat, t = (.int .i64 m, s1, s2, .int .i64 (scoreS m A B j), .int .i64 j) ∧ j ≤ min A.length B.length ∧ G = H) (μ := fun t _ => match t.2.2.2.2 with | .int _ z => min A.length B.length - z.toNat | _ => 0) ?_ ⟨0, rfl, Nat.zero_le _, rfl⟩
  rintro t G ⟨j, rfl, hj, rfl⟩ rec hrec
  unfold m_fieldfareref1_Scoretthtbl
  rw [h1.len vec_sl, outP_val, h2.len vec_sl, outP_val, w_min2_int, outP_val, show min (A.length : Int) (B.length : Int) = ((min A.length B.length : Nat) : Int) by omega, w_lss, outP_val]
  by_cases c : j < min A.length B.length
  · have c1 : j < A.length := by omega
    have c2 : j < B.length := by omega
    obtain ⟨o1, a1, a2, a3⟩ := h1.at c1
    obtain ⟨o2, d1, d2, d3⟩ := h2.at c2
    have ia := hA _ (List.getElem_mem c1)
    have ib := hB _ (List.getElem_mem c2)
    have e : scoreS m A B (j + 1) = scoreStep m A[j] B[j] (scoreS m A B j) := by
      show scoreStep m (A.getD j 0) (B.getD j 0) _ = _
      rw [getD_at c1, getD_at c2]
    rw [decide_eq_true (by omega), condP_true]
    unfold m_fieldfareref1_Scoretthtblt
    rw [a1, outP_val, w_load_c, a3, vO_some, outP_val, w_cint, outP_val, wrap64_32 ia, d1, outP_val, w_load_c, d3, vO_some, outP_val, w_cint, outP_val, wrap64_32 ib, w_eql, outP_val]
    unfold m_fieldfareref1_Scoretthtbltt
    have dec : min A.length B.length - ((j : Int) + 1).toNat < min A.length B.length - (j : Int).toNat := by omega
    by_cases m1 : m = 1
    · rw [decide_eq_true m1, condP_true, w_sub, outP_val, w_sub, outP_val, w_mul64, outP_val, w_add, outP_val, w_add_in (by omega) (by omega), outP_val]
      refine hrec _ _ ⟨j + 1, ?_, by omega, rfl⟩ dec
      rw [e]; unfold scoreStep; rw [if_pos m1]; rfl
    · rw [decide_eq_false m1, condP_false, w_eql, outP_val]
      by_cases m2 : m = 2
      · rw [decide_eq_true m2, condP_true, w_mul64, outP_val, w_sub, outP_val, w_add_in (by omega) (by omega), outP_val]
        refine hrec _ _ ⟨j + 1, ?_, by omega, rfl⟩ dec
        rw [e]; unfold scoreStep; rw [if_neg m1, if_pos m2]; rfl
      · rw [decide_eq_false m2, condP_false, w_add_in (by omega) (by omega), outP_val]
        refine hrec _ _ ⟨j + 1, ?_, by omega, rfl⟩ dec
        rw [e]; unfold scoreStep; rw [if_neg m1, if_neg m2]; rfl
  · rw [decide_eq_false (by omega), condP_false]
    have : j = min A.length B.length := by omega
    subst this
    exact hK
end
end Go.Ab
