/- BestAll: what it does, at any number and any slice of hits. -/
import Derived.Test.YtoafnnphjbdedaaGreatDoorBestUp
import Derived.Test.YtoafnnphjbdedaaGreatDoorM9
namespace Go.Ab
noncomputable section
open Go.Proofs
set_option maxRecDepth 10000
variable {H H' : AH}

theorem refLess_wp (x y : Int × Int) (H : AH) (K : AV → AH → Prop) (hK : ∀ H', Ext [] H H' → K (.bool (lessB x y)) H') : CC.call 71 [hitA x, hitA y] H K := by
  refine m_fieldfareref1_Less_ok _ _ _ _ ?_
  unfold m_fieldfareref1_Less hitA hitL
  have hx : Ext [] H ((H.new (.cells 37 [.int .i64 x.1, .int .i64 x.2])).new (.cells 37 [.int .i64 y.1, .int .i64 y.2])) := ((Ext.refl _ _).new _).new _
  have key := lessB_iff x y
  by_cases c1 : x.2 < y.2
  · have d1 : decide (x.2 < y.2) = true := by simpa using c1
    have e : lessB x y = true := key.2 (.inl c1)
    simp (disch := first | omega | exact one_int _ _ | exact one_slice _ _ _ _ | exact one_ptr _ | assumption | ((repeat (first | rw [next_new] | rw [AH.next_put] | rw [next_more])) <;> omega) | fail) only [outP_val, w_fieldAddr_ptr, w_load_c, get_new_eq, get_new_ne, next_new, ldV_cells, 
      vO_some, Nat.zero_add, Nat.add_zero, List.getElem?_cons_zero, List.getElem?_cons_succ, ob_some, clearA_int, w_box_c, parts_agg, 
      one_int, List.all_cons, List.all_nil, Bool.and_self, br_true, w_lss, w_pick_b, 
      boolIs_bool, guardP_false, beq_ff, Bool.not_true, 
      if_true, d1]
    have := hK _ hx; rw [e] at this; exact this
  · have d1 : decide (x.2 < y.2) = false := by simpa using c1
    by_cases c2 : x.2 = y.2
    · have d2 : decide (x.2 = y.2) = true := by simpa using c2
      have e : lessB x y = decide (x.1 < y.1) := by rw [Bool.eq_iff_iff, key, decide_eq_true_iff]; omega
      simp (disch := first | omega | exact one_int _ _ | exact one_slice _ _ _ _ | exact one_ptr _ | assumption | ((repeat (first | rw [next_new] | rw [AH.next_put] | rw [next_more])) <;> omega) | fail) only [outP_val, w_fieldAddr_ptr, w_load_c, get_new_eq, get_new_ne, next_new, ldV_cells, 
      vO_some, Nat.zero_add, Nat.add_zero, List.getElem?_cons_zero, List.getElem?_cons_succ, ob_some, clearA_int, w_box_c, parts_agg, 
      one_int, List.all_cons, List.all_nil, Bool.and_self, br_true, w_eql, w_lss, w_pick_b, 
      boolIs_bool, guardP_true, beq_tt, beq_ff, 
      Bool.not_false, if_true, if_false, Bool.false_eq_true, d1, d2]
      have := hK _ hx; rw [e] at this; exact this
    · have d2 : decide (x.2 = y.2) = false := by simpa using c2
      have e : lessB x y = false := by
        cases q : lessB x y with
        | false => rfl
        | true => have := key.1 q; omega
      simp (disch := first | omega | exact one_int _ _ | exact one_slice _ _ _ _ | exact one_ptr _ | assumption | ((repeat (first | rw [next_new] | rw [AH.next_put] | rw [next_more])) <;> omega) | fail) only [outP_val, w_fieldAddr_ptr, w_load_c, get_new_eq, get_new_ne, next_new, ldV_cells, 
      vO_some, Nat.zero_add, Nat.add_zero, List.getElem?_cons_zero, List.getElem?_cons_succ, ob_some, clearA_int, w_box_c, parts_agg, 
      one_int, List.all_cons, List.all_nil, Bool.and_self, br_true, w_eql, w_lss, w_pick_b, 
      boolIs_bool, guardP_true, guardP_false, beq_tt, beq_ff, 
      Bool.not_false, if_false, Bool.false_eq_true, d1, d2]
      have := hK _ hx; rw [e] at this; exact this

theorem take_min {α : Type} {M : List α} {n k : Nat} (h : M.length = n) : M.take (min n k) = M.take k := by
  rcases Nat.le_total n k with q | q
  · rw [Nat.min_eq_left q, List.take_of_length_le (Nat.le_of_eq h), List.take_of_length_le (by omega)]
  · rw [Nat.min_eq_right q]
theorem beq_hit (a b : Int) : AV.beq (.agg [.int .i64 a, .int .i64 b]) (.agg [.int .i64 a, .int .i64 b]) = true := by
  simp [AV.beq, AV.beqL, eqZ_eq, kEq]
theorem putBest_wp {b : Nat} {s : AV} {L : List (Int × Int)} (hs : Hs H b s L) (hL : L.length ≤ 100) {kk : Nat} (hk : L.length ≤ kk) (hso : Sorted L) (h : Int × Int) (K : AV → AH → Prop)
    (hK : ∀ H' s' b', Ext [] H H' → (b' = b ∧ (putL kk L h).2 = false ∨ H.next ≤ b') → Hs H' b' s' (putL kk L h).1 → K (.tup [s', .bool (putL kk L h).2]) H') : CC.call 32 [.int .i64 kk, s, hitA h] H K := by
  refine m_fieldfareref1_PutBest_ok _ _ _ _ _ ?_
  unfold m_fieldfareref1_PutBest hitA hitL
  have hx : Ext [] H (H.new (.cells 37 [.int .i64 h.1, .int .i64 h.2])) := (Ext.refl _ _).new _
  have hv0 : (H.new (.cells 37 [.int .i64 h.1, .int .i64 h.2])).get H.next = some (.cells 37 [.int .i64 h.1, .int .i64 h.2]) := get_new_same _ _
  have hn0 : H.next < (H.new (.cells 37 [.int .i64 h.1, .int .i64 h.2])).next := by rw [next_new]; omega
  have hs0 : Hs (H.new (.cells 37 [.int .i64 h.1, .int .i64 h.2])) b s L := hs.mono hx (by simp)
  simp (disch := first | omega | exact one_int _ _ | exact one_slice _ _ _ _ | exact one_ptr _ | assumption | ((repeat (first | rw [next_new] | rw [AH.next_put] | rw [next_more])) <;> omega) | fail) only [outP_val, 
      w_box_c, parts_agg, 
      one_int, List.all_cons, List.all_nil, Bool.and_self, br_true 
      
      ]
  generalize hG0 : H.new (.cells 37 [.int .i64 h.1, .int .i64 h.2]) = G0 at *
  have hlen := hs0.len
  unfold m_fieldfareref1_PutBestth m_fieldfareref1_PutBestthtb
  rw [hlen, outP_val]
  refine loopP_rule (I := fun t G => ∃ j : Nat, t = (.int .i64 kk, s, .ptr (some (H.next, 0)), .int .i64 L.length, .int .i64 j) ∧ j ≤ L.length ∧ G = G0 ∧ ∀ x ∈ L.take j, x.1 ≠ h.1) (μ := fun t _ => match t.2.2.2.2 with | .int _ z => L.length - z.toNat | _ => 0) ?_ ⟨0, rfl, Nat.zero_le _, rfl, fun x hx => by simp at hx⟩
  rintro t G ⟨j, rfl, hj, rfl, hno⟩ rec hrec
  unfold m_fieldfareref1_PutBestthtbl
  by_cases cj : j < L.length
  · have d1 : decide ((j : Int) < (L.length : Int)) = true := by simpa using cj
    obtain ⟨o, a1, a2, a3, _⟩ := hs0.at1 cj
    simp (disch := first | omega | exact one_int _ _ | exact one_slice _ _ _ _ | exact one_ptr _ | assumption | ((repeat (first | rw [next_new] | rw [AH.next_put] | rw [next_more])) <;> omega) | fail) only [outP_val, w_fieldAddr_ptr, w_load_c, ldV_cells, 
      vO_some, Nat.add_zero, List.getElem?_cons_zero, ob_some, clearA_int, 
      w_eql, w_lss, w_add, wrap64_in, 
      condP_dec, condP_true, 
      d1, a1, a3, hv0]
    refine ⟨fun e => ?_, fun e => ?_⟩
    · have e2 : putL kk L h = (L, false) := by
        unfold putL; rw [if_pos (List.any_eq_true.2 ⟨L[j], List.getElem_mem cj, by simpa using e⟩)]
      have := hK G s b hx (.inl ⟨rfl, by rw [e2]⟩)
      rw [e2] at this
      exact this hs0
    · refine hrec _ _ ⟨j + 1, by rfl, by omega, rfl, fun x hx => ?_⟩ ?_
      · rw [List.take_succ_eq_append_getElem cj, List.mem_append] at hx
        rcases hx with hx | hx
        · exact hno x hx
        · simp at hx; subst hx; exact e
      · show L.length - ((j : Int) + 1).toNat < L.length - (j : Int).toNat
        omega
  · have d1 : decide ((j : Int) < (L.length : Int)) = false := by simpa using cj
    have hid : ∀ x ∈ L, x.1 ≠ h.1 := by rw [List.take_of_length_le (by omega)] at hno; exact hno
    simp (disch := first | omega | exact one_int _ _ | exact one_slice _ _ _ _ | exact one_ptr _ | assumption | ((repeat (first | rw [next_new] | rw [AH.next_put] | rw [next_more])) <;> omega) | fail) only [outP_val, w_fieldAddr_ptr, w_load_c, 
      Nat.add_zero, 
      w_lss, w_add, wrap64_in, 
      condP_false, 
      d1]
    -- it is put in
    have ins : ∀ (hk0 : 0 < kk), (∀ q : kk ≤ L.length, lessB h (L[L.length - 1]'(by omega)) = true) → ∀ G1, Ext [] G G1 → m_fieldfareref1_PutBestttt K (.int .i64 kk) s (.ptr (some (H.next, 0))) G1 := by
      intro hk0 hlast G1 x1
      have hput := putL_in (L := L) (h := h) hk0 hk hid hlast
      unfold m_fieldfareref1_PutBestttt m_fieldfareref1_PutBesttttthb
      refine loopP_rule (I := fun t G2 => ∃ j : Nat, t = (.int .i64 kk, s, .ptr (some (H.next, 0)), .int .i64 j) ∧ j ≤ L.length ∧ Ext [] G G2 ∧ ∀ i (hi : i < L.length), i < j → lessB h L[i] = false) (μ := fun t _ => match t.2.2.2 with | .int _ z => L.length - z.toNat | _ => 0) ?_ ⟨0, rfl, Nat.zero_le _, x1, fun i hi q => absurd q (by omega)⟩
      rintro t G2 ⟨i, rfl, hi, x2, hle⟩ rec2 hrec2
      unfold m_fieldfareref1_PutBesttttthbl
      have hv2 := x2.get hn0 (by simp) hv0
      have hs2 : Hs G2 b s L := Sl.mono hs0 x2 (by simp)
      -- the last part
      have tail : ∀ G3 : AH, Ext [] G2 G3 → posR L h = i → outP CC (G3.more 1) (w_slice (.sl 2) true false (G3.more 1) s none (some (.int .i64 i)) none) fun v12 H12 =>
          outP CC H12 (vO H12 (ldN 2 (H12.get H.next) 0)) fun v13 H13 =>
          outP CC H13 (w_slice (.sl 2) false false H13 s (some (.int .i64 i)) none none) fun v14 H14 =>
          outP CC H14 (w_append 37 2 16 H14 (.slice none 0 0 true) v12 none) fun v15 H15 =>
          ckP (reC true (vO H15 (ldN 2 (H15.get H.next) 0)) v13)
          (outP CC H15 (w_buildSlice PP 37 1 H15 [(0, v13)] (some G3.next)) fun v16 H16 =>
          outP CC H16 (w_append 37 2 16 H16 v15 v16 none) fun v17 H17 =>
          outP CC H17 (w_append 37 2 16 H17 v17 v14 none) fun v18 H18 =>
          outP CC H18 (w_len PP 32 H18 v18) fun v19 H19 =>
          outP CC H19 (w_min2 H19 v19 (.int .i64 kk)) fun v20 H20 =>
          outP CC H20 (w_slice (.sl 2) true false H20 v18 none (some v20) none) fun v21 H21 =>
          K (.tup [v21, (.bool true)]) H21) := by
        intro G3 x3 hpos
        rw [hpos] at hput
        have n2 := x2.next
        have n3 := x3.next
        have hs3 : Hs (G3.more 1) b s L := (hs2.mono x3 (by simp)).mono ((Ext.refl [] _).more 1) (by simp)
        obtain ⟨s12, c1, hs12⟩ := Sl.cut hs3 (hasHi := true) none (some (.i64, i)) (Nat.zero_le _) (show i ≤ (L.map hitL).length by simpa using hi)
        refine st (c1 _) ?_
        have hs12 : Hs (G3.more 1) b s12 (L.take i) := by
          have e : (List.drop (loN 0 none) (L.map hitL)).take (loN (L.map hitL).length (some (.i64, i)) - loN 0 none) = (L.take i).map hitL := by
            show (List.drop 0 (L.map hitL)).take (i - 0) = _
            rw [List.drop_zero, Nat.sub_zero, List.map_take]
          rw [e] at hs12; exact hs12
        have hv3 : G3.get H.next = _ := x3.get (Nat.lt_of_lt_of_le hn0 n2) (by simp) hv2
        rw [get_more, hv3, ldN_pair, vO_some, outP_val]
        obtain ⟨s17, c2, hs17⟩ := Sl.cut hs3 (hasHi := false) (some (.i64, i)) none (show i ≤ (L.map hitL).length by simpa using hi) (Nat.le_refl _)
        refine st (c2 _) ?_
        have hs17 : Hs (G3.more 1) b s17 (L.drop i) := by
          have e : (List.drop (loN 0 (some (.i64, i))) (L.map hitL)).take (loN (L.map hitL).length none - loN 0 (some (.i64, i))) = (L.drop i).map hitL := by
            show (List.drop i (L.map hitL)).take ((L.map hitL).length - i) = _
            rw [List.take_of_length_le (by rw [List.length_drop]; omega), List.map_drop]
          rw [e] at hs17; exact hs17
        refine push_hits (L := []) (B := (G3.more 1).next) (Own.nil _ _ _ _) hs12 (by simp; omega) _ fun G4 s13 B4 x4 hB4 o4 => ?_
        rw [next_more] at x4 hB4
        have n4' := x4.next
        rw [next_more] at n4'
        have x4' : Ext [] G3 G4 := (((Ext.refl [] G3).more 1).mono (m' := [G3.next + 1]) (by simp)).trans x4 |>.mono fun b hb hlt => by simp at hb; omega
        have hlow3 := hs3.low
        have hv4 := x4'.get (Nat.lt_of_lt_of_le (Nat.lt_of_lt_of_le hn0 n2) n3) (by simp) hv3
        have hs17' : Hs G4 b s17 (L.drop i) := Sl.mono' hs17 x4 (fun q => by
          rcases hlow3 with r | r
          · rw [next_more] at r; simp at q; omega
          · have : L = [] := by simpa using r
            rw [this]; simp)
        rw [hv4, ldN_pair, vO_some, reC_val, beq_hit, ckP_true]
        have x5 : Ext [] G3 (G4.put G3.next (some (.cells 37 [.int .i64 h.1, .int .i64 h.2]))) := x4'.put (.inl (Nat.le_refl _)) _
        refine st (bs_one h _) ?_
        have o5 : Own (G4.put G3.next (some (.cells 37 [.int .i64 h.1, .int .i64 h.2]))) 37 2 G3.next (.slice (some (G3.next, 0)) 1 1 true) ([h].map hitL) :=
          ⟨.inr ⟨0, 1, true, _, rfl, get_put_same _ _, Nat.le_refl _, Nat.le_refl _, fun q => (by cases q), rfl, by rw [AH.next_put]; omega⟩, by simp [hitL], by simp [hitL, AV.known], by simp [hitL, AV.one]⟩
        have hB4' : B4 ≠ G3.next := by omega
        have o4' : Own (G4.put G3.next (some (.cells 37 [.int .i64 h.1, .int .i64 h.2]))) 37 2 B4 s13 (([] ++ L.take i).map hitL) := o4.mono ((Ext.refl [G3.next] _).put (.inr (by simp)) _) (by simp; exact hB4')
        have hlow : b < G3.next ∨ L = [] := by
          rcases (hs2.mono x3 (m := []) (by simp)).low with r | r
          · exact .inl r
          · exact .inr (by simpa using r)
        have hs5 : Hs (G4.put G3.next (some (.cells 37 [.int .i64 h.1, .int .i64 h.2]))) b s17 (L.drop i) := Sl.mono' hs17' ((Ext.refl [G3.next] _).put (.inr (by simp)) _) (fun q => by
          rcases hlow with r | r
          · simp at q; omega
          · rw [r]; simp)
        generalize hG5 : G4.put G3.next (some (.cells 37 [.int .i64 h.1, .int .i64 h.2])) = G5 at *
        have n5 : G5.next = G4.next := by rw [← hG5, AH.next_put]
        refine push_hits o4' o5.sl (by simp; omega) _ fun G6 s16 B6 x6 hB6 o6 => ?_
        rw [List.nil_append] at o6
        have n6 := x6.next
        have hs17 : Hs G6 b s17 (L.drop i) := Sl.mono' hs5 x6 (fun q => by
          rcases hlow with r | r
          · simp at q; omega
          · rw [r]; simp)
        refine push_hits o6 hs17 (by simp; omega) _ fun G7 s18 B7 x7 hB7 o7 => ?_
        have e7 : L.take i ++ [h] ++ L.drop i = L.take i ++ h :: L.drop i := by simp
        rw [e7] at o7
        have l7 := Hs.len (o7.sl : Hs G7 B7 s18 (L.take i ++ h :: L.drop i))
        have ll : (L.take i ++ h :: L.drop i).length = L.length + 1 := by rw [List.length_append, List.length_cons, List.length_take, List.length_drop]; omega
        rw [l7, outP_val, w_min2_int, outP_val]
        have hmin : min (((L.take i ++ h :: L.drop i).length : Nat) : Int) (kk : Int) = ((min (L.length + 1) kk : Nat) : Int) := by rw [ll]; omega
        rw [hmin]
        obtain ⟨s21, c3, hs21⟩ := Sl.cut o7.sl (hasHi := true) none (some (.i64, min (L.length + 1) kk)) (Nat.zero_le _) (show min (L.length + 1) kk ≤ ((L.take i ++ h :: L.drop i).map hitL).length by rw [List.length_map, ll]; omega)
        refine st (c3 _) ?_
        have hs21 : Hs G7 B7 s21 (putL kk L h).1 := by
          have e : (List.drop (loN 0 none) ((L.take i ++ h :: L.drop i).map hitL)).take (loN ((L.take i ++ h :: L.drop i).map hitL).length (some (.i64, min (L.length + 1) kk)) - loN 0 none) = ((L.take i ++ h :: L.drop i).take kk).map hitL := by
            show (List.drop 0 ((L.take i ++ h :: L.drop i).map hitL)).take (min (L.length + 1) kk - 0) = _
            rw [List.drop_zero, Nat.sub_zero, ← List.map_take]
            rw [take_min ll]
          rw [e] at hs21
          rw [hput]; exact hs21
        have hfin := hK G7 s21 B7 ?_ (.inr ?_) hs21
        · rw [hput] at hfin; exact hfin
        · have n0 := hx.next
          refine (((hx.trans (x2.trans x3)).trans x5).mono (m' := [B4, B6]) (by simp)).trans ((x6.mono (by simp)).trans (x7.mono (by simp))) |>.mono fun b hb hlt => ?_
          simp at hb; omega
        · have n0 := hx.next
          omega
      by_cases ci : i < L.length
      · have d2 : decide ((i : Int) < (L.length : Int)) = true := by simpa using ci
        obtain ⟨o, b1, b2, b3⟩ := Hs.at hs2 ci
        unfold hitA hitL at b3
        have l2 := hs2.len
        simp (disch := first | omega | exact one_int _ _ | exact one_slice _ _ _ _ | exact one_ptr _ | assumption | ((repeat (first | rw [next_new] | rw [AH.next_put] | rw [next_more])) <;> omega) | fail) only [outP_val, outP_enter, w_load_n, 
      ldN_pair, vO_some, Nat.add_zero, 
      w_lss, w_pick_b, w_add, wrap64_in, 
      boolIs_bool, guardP_true, beq_tt, 
      if_true, nat_add, l2, d2, hv2, b1, b3]
        refine refLess_wp h L[i] _ _ fun G3 x3 => ?_
        cases hl : lessB h L[i] with
        | false =>
          simp (disch := first | omega | exact one_int _ _ | exact one_slice _ _ _ _ | exact one_ptr _ | assumption | ((repeat (first | rw [next_new] | rw [AH.next_put] | rw [next_more])) <;> omega) | fail) only [outP_val, 
      w_not, 
      condP_true, 
      Bool.not_false ]
          refine hrec2 _ _ ⟨i + 1, by rfl, by omega, x2.trans x3, fun q hq hqi => ?_⟩ ?_
          · rcases Nat.lt_or_ge q i with r | r
            · exact hle q hq r
            · have : q = i := by omega
              subst this; exact hl
          · show L.length - ((i : Int) + 1).toNat < L.length - (i : Int).toNat
            omega
        | true =>
          simp (disch := first | omega | exact one_int _ _ | exact one_slice _ _ _ _ | exact one_ptr _ | assumption | ((repeat (first | rw [next_new] | rw [AH.next_put] | rw [next_more])) <;> omega) | fail) only [outP_val, 
      w_not, 
      condP_false, Bool.not_true 
      ]
          exact tail G3 x3 (posR_at hi (fun q hq => hle q (by omega) hq) (fun _ => hl))
      · have d2 : decide ((i : Int) < (L.length : Int)) = false := by simpa using ci
        have l2 := hs2.len
        simp (disch := first | omega | exact one_int _ _ | exact one_slice _ _ _ _ | exact one_ptr _ | assumption | ((repeat (first | rw [next_new] | rw [AH.next_put] | rw [next_more])) <;> omega) | fail) only [outP_val, w_load_n, 
      Nat.add_zero, 
      w_lss, w_pick_b, w_add, wrap64_in, 
      condP_false, boolIs_bool, guardP_false, beq_tt, 
      if_false, Bool.false_eq_true, nat_add, l2, d2]
        exact tail G2 (Ext.refl _ _) (posR_at hi (fun q hq => hle q (by omega) hq) (fun q => absurd q ci))
    unfold m_fieldfareref1_PutBesttt
    by_cases c0 : (kk : Int) ≤ 0
    · have d2 : decide ((kk : Int) ≤ 0) = true := by simpa using c0
      have e2 : putL kk L h = (L, false) := by
        unfold putL
        rw [if_neg, if_pos (by omega)]
        intro q
        obtain ⟨x, hx, hx'⟩ := List.any_eq_true.1 q
        exact hid x hx (by simpa using hx')
      simp (disch := first | omega | exact one_int _ _ | exact one_slice _ _ _ _ | exact one_ptr _ | assumption | ((repeat (first | rw [next_new] | rw [AH.next_put] | rw [next_more])) <;> omega) | fail) only [outP_val, w_load_n, 
      w_leq, w_pick_b, 
      condP_true, boolIs_bool, guardP_false, beq_ff, Bool.not_true, 
      if_true, d2]
      have := hK G s b hx (.inl ⟨rfl, by rw [e2]⟩)
      rw [e2] at this
      exact this hs0
    · have d2 : decide ((kk : Int) ≤ 0) = false := by simpa using c0
      by_cases c1 : kk ≤ L.length
      · have d3 : decide ((kk : Int) ≤ (L.length : Int)) = true := by simpa using c1
        have hl1 : ((L.length : Nat) : Int) - 1 = ((L.length - 1 : Nat) : Int) := by omega
        obtain ⟨o, b1, b2, b3⟩ := Hs.at hs0 (j := L.length - 1) (by omega)
        unfold hitA hitL at b3
        simp (disch := first | omega | exact one_int _ _ | exact one_slice _ _ _ _ | exact one_ptr _ | assumption | ((repeat (first | rw [next_new] | rw [AH.next_put] | rw [next_more])) <;> omega) | fail) only [outP_val, outP_enter, w_load_n, 
      ldN_pair, vO_some, 
      w_leq, w_geq, w_pick_b, w_sub, wrap64_in, 
      boolIs_bool, guardP_true, beq_tt, beq_ff, 
      Bool.not_false, if_true, if_false, Bool.false_eq_true, d2, hlen, d3, hl1, b1, b3, hv0]
        refine refLess_wp h L[L.length - 1] _ _ fun G1 x1 => ?_
        cases hl : lessB h L[L.length - 1] with
        | false =>
          have e2 := putL_full (k := kk) hso (by omega) c1 hid hl
          simp (disch := first | omega | exact one_int _ _ | exact one_slice _ _ _ _ | exact one_ptr _ | assumption | ((repeat (first | rw [next_new] | rw [AH.next_put] | rw [next_more])) <;> omega) | fail) only [outP_val, 
      w_not, 
      condP_true, 
      Bool.not_false ]
          have := hK G1 s b (hx.trans x1) (.inl ⟨rfl, by rw [e2]⟩)
          rw [e2] at this
          exact this (hs0.mono x1 (by simp))
        | true =>
          simp (disch := first | omega | exact one_int _ _ | exact one_slice _ _ _ _ | exact one_ptr _ | assumption | ((repeat (first | rw [next_new] | rw [AH.next_put] | rw [next_more])) <;> omega) | fail) only [outP_val, 
      w_not, 
      condP_false, Bool.not_true 
      ]
          exact ins (by omega) (fun _ => hl) G1 x1
      · have d3 : decide ((kk : Int) ≤ (L.length : Int)) = false := by simp; omega
        simp (disch := first | omega | exact one_int _ _ | exact one_slice _ _ _ _ | exact one_ptr _ | assumption | ((repeat (first | rw [next_new] | rw [AH.next_put] | rw [next_more])) <;> omega) | fail) only [outP_val, w_load_n, 
      w_leq, w_geq, w_pick_b, 
      condP_false, boolIs_bool, guardP_true, guardP_false, beq_tt, beq_ff, 
      Bool.not_false, if_false, Bool.false_eq_true, d2, hlen, d3]
        exact ins (by omega) (fun q => absurd q c1) G (Ext.refl _ _)

/-! Worst. -/
theorem w_ext0 (x y : AV) : w_extract 0 H (.tup [x, y]) = some (.val x H) := rfl
theorem w_ext1 (x y : AV) : w_extract 1 H (.tup [x, y]) = some (.val y H) := rfl
theorem bool_neq (a b : Bool) : w_eq PP .neq 4 false false H (.bool a) (.bool b) = some (.val (.bool (a != b)) H) := by cases a <;> cases b <;> kernel_rfl
theorem hit_zero : w_build PP 37 H [] = some (.val (.agg [.int .i64 0, .int .i64 0]) H) := by kernel_rfl
theorem resR_hit {b : Nat} {e : TypeId} {x y : Int} (h : H.get b = some (.cells e [.int .i64 x, .int .i64 y])) (r : AV) : resR (partF (some (some 2))) H (.ptr (some (b, 0))) (resT r (some [])) = some [.agg [.int .i64 x, .int .i64 y], r] := by
  simp only [resR, partF, ob_some, onPtr, cellsTo, h, resT]
  rfl
theorem worst_no {p B k : Nat} {L : List (Int × Int)} (hb : IsBest H p B k L) (hn : k = 0 ∨ L.length < k) (K : AV → AH → Prop) (hK : ∀ H', Ext [] H H' → K (.tup [.agg [.int .i64 0, .int .i64 0], .bool false]) H') : CC.call 33 [.ptr (some (p, 0))] H K := by
  refine m_best_Best_Worst_ok _ _ _ ?_
  unfold m_best_Best_Worst
  obtain ⟨s, hg, hop⟩ := hb.ex
  have hcl := hop.facts.2.1
  have hlen := hop.hs.len
  have hlt := hb.lt
  have x1 : Ext [] H (H.new (.cells 37 [.int .i64 0, .int .i64 0])) := (Ext.refl _ _).new _
  have x2 : Ext [] H ((H.new (.cells 37 [.int .i64 0, .int .i64 0])).put H.next (some (.cells 37 [.int .i64 0, .int .i64 0]))) := x1.put (.inl (Nat.le_refl _)) _
  by_cases h0 : k = 0
  · subst h0
    have d0 : decide (((0 : Nat) : Int) = 0) = true := rfl
    simp (disch := first | omega | exact one_int _ _ | exact one_slice _ _ _ _ | exact one_ptr _ | assumption | ((repeat (first | rw [next_new] | rw [AH.next_put] | rw [next_more])) <;> omega) | fail) only [outP_val, outP_skip, w_nil_ptr, w_fieldAddr_ptr, w_load_c, get_new_eq, get_new_ne, ldV_cells, 
      vO_some, Nat.zero_add, Nat.add_zero, List.getElem?_cons_zero, List.getElem?_cons_succ, ob_some, clearA_int, 
      w_eql, w_pick_b, 
      condP_true, boolIs_bool, guardP_true, guardP_false, w_alloc_none, w_store_c, stN_two, beq_ff, Bool.not_true, 
      Bool.not_false, if_true, if_false, Bool.false_eq_true, eq_33, hg, d0, hit_zero]
    rw [resR_hit (get_put_same _ _)]
    exact hK _ x2
  · have d0 : decide ((k : Int) = 0) = false := by simp; omega
    have d1 : decide ((L.length : Int) < (k : Int)) = true := by simp; omega
    simp (disch := first | omega | exact one_int _ _ | exact one_slice _ _ _ _ | exact one_ptr _ | assumption | ((repeat (first | rw [next_new] | rw [AH.next_put] | rw [next_more])) <;> omega) | fail) only [outP_val, outP_skip, w_nil_ptr, w_fieldAddr_ptr, w_load_c, get_new_eq, get_new_ne, ldV_cells, 
      vO_some, Nat.zero_add, Nat.add_zero, List.getElem?_cons_zero, List.getElem?_cons_succ, ob_some, clearA_int, 
      w_eql, w_lss, w_pick_b, w_sub, 
      condP_true, boolIs_bool, guardP_true, w_alloc_none, w_store_c, stN_two, beq_ff, 
      Bool.not_false, if_false, Bool.false_eq_true, eq_33, hg, hcl, hlen, d0, d1, hit_zero]
    rw [resR_hit (get_put_same _ _)]
    exact hK _ x2
theorem worst_yes {p B k : Nat} {L : List (Int × Int)} (hb : IsBest H p B k L) (hL : L.length ≤ 1000) (h0 : 0 < k) (hn : L.length = k) (K : AV → AH → Prop) (hK : ∀ H', Ext [] H H' → K (.tup [.agg [.int .i64 (L[L.length - 1]'(by omega)).1, .int .i64 (L[L.length - 1]'(by omega)).2], .bool true]) H') : CC.call 33 [.ptr (some (p, 0))] H K := by
  refine m_best_Best_Worst_ok _ _ _ ?_
  unfold m_best_Best_Worst
  obtain ⟨s, hg, hop⟩ := hb.ex
  have hcl := hop.facts.2.1
  have hlen := hop.hs.len
  have hlt := hb.lt
  subst hn
  have x1 : Ext [] H (H.new (.cells 37 [.int .i64 0, .int .i64 0])) := (Ext.refl _ _).new _
  obtain ⟨o, a1, a2, a3⟩ := Hs.at hop.hs (j := L.length - 1) (by omega)
  unfold hitA hitL at a3
  have x2 : Ext [] H ((H.new (.cells 37 [.int .i64 0, .int .i64 0])).put H.next (some (.cells 37 [.int .i64 (L[L.length - 1]'(by omega)).1, .int .i64 (L[L.length - 1]'(by omega)).2]))) := x1.put (.inl (Nat.le_refl _)) _
  have d0 : decide ((L.length : Int) = 0) = false := decide_eq_false (by omega)
  have d1 : decide ((L.length : Int) < (L.length : Int)) = false := by simp
  have hl1 : ((L.length : Nat) : Int) - 1 = ((L.length - 1 : Nat) : Int) := by omega
  simp (disch := first | omega | exact one_int _ _ | exact one_slice _ _ _ _ | exact one_ptr _ | assumption | ((repeat (first | rw [next_new] | rw [AH.next_put] | rw [next_more])) <;> omega) | fail) only [outP_val, outP_skip, w_nil_ptr, w_fieldAddr_ptr, w_load_c, w_load_n, get_new_eq, get_new_ne, ldV_cells, 
      vO_some, Nat.zero_add, Nat.add_zero, List.getElem?_cons_zero, List.getElem?_cons_succ, ob_some, clearA_int, 
      w_eql, w_lss, w_pick_b, w_sub, wrap64_in, 
      condP_false, boolIs_bool, guardP_true, w_alloc_none, w_store_c, stN_two, beq_ff, 
      Bool.not_false, if_false, Bool.false_eq_true, eq_33, hg, hcl, hlen, d0, d1, hl1, a1, a3]
  rw [resR_hit (get_put_same _ _)]
  exact hK _ x2
theorem IsBest.norm {p B k : Nat} {L : List (Int × Int)} (h : IsBest H p B k L) : B < H.next ∨ IsBest H p H.next k L := by
  obtain ⟨s, hg, hop⟩ := h.ex
  have hlt := h.lt
  obtain ⟨rfl, rfl⟩ | ⟨o, c, cs, rfl, h1, h2, h0, h3, h4, h5⟩ := hop.ex
  · exact .inr ⟨⟨_, hg, ⟨.inl ⟨rfl, rfl⟩⟩⟩, hlt, by omega, h.len⟩
  · exact .inl h5
theorem putL_no {k : Nat} {L : List (Int × Int)} {h : Int × Int} (e : (putL k L h).2 = false) : (putL k L h).1 = L := by
  unfold putL at *
  split
  · rfl
  · split
    · rfl
    · rename_i q1 q2; simp [q1, q2] at e

theorem bestAll_wp {b : Nat} {s : AV} {L : List (Int × Int)} (k : Int) (hs : Hs H b s L) (_hb : b < H.next) (hl : Laid H) (K : AV → AH → Prop) (hK : ∀ H', Ext [] H H' → K (.bool true) H') : CC.call 9 [.int .i64 k, s] H K := by
  refine m_fieldfarelaw7_BestAll_ok _ _ _ _ ?_
  unfold m_fieldfarelaw7_BestAll m_fieldfarelaw7_BestAllt
  rw [outP_enter]
  refine begun_wp hl _ ?_
  unfold m_fieldfarelaw7_BestAlltt
  rw [w_not, outP_val, Bool.not_true, condP_false]
  unfold m_fieldfarelaw7_BestAllttt
  rw [outP_enter]
  refine new_wp k _ fun G0 e0 hb0 => ?_
  have hp0 := hb0.lt
  generalize hp : H.next = p at *
  unfold m_fieldfarelaw7_BestAlltttt m_fieldfarelaw7_BestAllttttt
  have hkk : max k 0 = ((k.toNat : Nat) : Int) := by omega
  rw [w_max2_int, outP_val, hkk]
  generalize k.toNat = kk at *
  unfold m_fieldfarelaw7_BestAlltttttth m_fieldfarelaw7_BestAlltttttthtb
  have hlen := hs.len
  refine loopP_rule (I := fun t G => ∃ (j B bw : Nat) (w : AV), t = (.int .i64 kk, s, .ptr (some (p, 0)), w, .int .i64 j) ∧ j ≤ L.length ∧ j ≤ 40 ∧ Ext [] H G ∧ p < B ∧ p < bw ∧ IsBest G p B kk (bestL kk (L.take j)) ∧ Hs G bw w (bestL kk (L.take j)) ∧ (bestL kk (L.take j) = [] ∨ bw ≠ B))
    (μ := fun t _ => match t.2.2.2.2 with | .int _ z => 40 - z.toNat | _ => 0) ?_ ⟨0, p + 1, p + 1, .slice none 0 0 true, rfl, Nat.zero_le _, Nat.zero_le _, e0, by omega, by omega, by simpa [bestL] using hb0, ⟨.inl ⟨.inl rfl, by simp [bestL]⟩⟩, .inl (by simp [bestL])⟩
  rintro t G ⟨j, B, bw, w, rfl, hj, hj40, e1, hB, hbw, hbj, hw, hne⟩ rec hrec
  unfold m_fieldfarelaw7_BestAlltttttthtbl
  have hM : (bestL kk (L.take j)).length ≤ 40 := by have := bestL_len kk (L.take j); rw [List.length_take] at this; omega
  have hpG := hbj.lt
  have tail : j = min L.length 40 → outP CC G (some (.val (.int .i64 (min (L.length : Int) 40)) G)) fun v58 H58 =>
      outP CC H58 (w_slice (.sl 2) true false H58 s none (some v58) none) fun v59 H59 =>
      CC.call 25 [.int .i64 kk, v59] H59 fun v60 H60 => CC.call 23 [v60, w] H60 fun v61 H61 => K v61 H61 := by
    intro hjm
    have hm : min (L.length : Int) 40 = ((j : Nat) : Int) := by omega
    rw [outP_val, hm]
    have hsG : Hs G b s L := Sl.mono hs e1 (by simp)
    obtain ⟨s59, c1, hs59⟩ := Sl.cut hsG (hasHi := true) none (some (.i64, j)) (Nat.zero_le _) (show j ≤ (L.map hitL).length by simpa using hj)
    refine st (c1 _) ?_
    have hs59 : Hs G b s59 (L.take j) := by
      have e : (List.drop (loN 0 none) (L.map hitL)).take (loN (L.map hitL).length (some (.i64, j)) - loN 0 none) = (L.take j).map hitL := by
        show (List.drop 0 (L.map hitL)).take (j - 0) = _
        rw [List.drop_zero, Nat.sub_zero, List.map_take]
      rw [e] at hs59; exact hs59
    refine of_wp hs59 (by rw [List.length_take]; omega) kk _ fun G2 s60 B60 x2 hB60 o60 => ?_
    rw [Int.toNat_natCast] at o60
    refine hits_wp o60.sl (hw.mono x2 (by simp)) (by omega) _ ?_
    rw [decide_eq_true rfl]
    exact hK _ (e1.trans x2)
  by_cases c1 : j < L.length
  · by_cases c2 : j < 40
    · have d1 : decide ((j : Int) < (L.length : Int)) = true := by simpa using c1
      have d2 : decide ((j : Int) < 40) = true := by simp; omega
      obtain ⟨o, a1, a2, a3⟩ := Hs.at (Sl.mono hs e1 (by simp)) c1
      simp (disch := first | omega | exact one_int _ _ | exact one_slice _ _ _ _ | exact one_ptr _ | assumption | ((repeat (first | rw [next_new] | rw [AH.next_put] | rw [next_more])) <;> omega) | fail) only [outP_val, outP_enter, w_load_n, get_new_eq, 
      vO_some, 
      w_lss, w_gtr, w_pick_b, w_add, wrap64_in, 
      condP_true, boolIs_bool, guardP_true, w_alloc_none, w_store_c, beq_tt, 
      if_true, hlen, d1, d2, a1, a3]
      have hsucc : bestL kk (L.take (j + 1)) = (putL kk (bestL kk (L.take j)) L[j]).1 := by rw [List.take_succ_eq_append_getElem c1, bestL_snoc]
      have hso := bestL_sorted kk (L.take j)
      refine putBest_wp hw (by omega) hbj.len hso L[j] _ fun G1 s1 b1 x1 hb1 hs1 => ?_
      generalize bestL kk (L.take j) = A at *
      have n1 := x1.next
      have hlow1 := Sl.low hs1
      obtain ⟨o', a1', a2', a3'⟩ := Hs.at ((Sl.mono hs e1 (by simp) : Hs G b s L).mono x1 (by simp)) c1
      have hoo : o' = o := by
        have := (a1' G).symm.trans (a1 G)
        simp only [Option.some.injEq, Out.val.injEq, AV.ptr.injEq, Prod.mk.injEq, true_and, and_true] at this
        exact this
      subst hoo
      simp (disch := first | omega | exact one_int _ _ | exact one_slice _ _ _ _ | exact one_ptr _ | assumption | ((repeat (first | rw [next_new] | rw [AH.next_put] | rw [next_more])) <;> omega) | fail) only [outP_val, 
      vO_some, 
      
      
      w_ext0, w_ext1, a3']
      have hbj1 : IsBest G1 p B kk A := hbj.mono x1 (by simp) (by simp)
      obtain ⟨B', hB', hbj'⟩ : ∃ B', (B' = B ∧ B < G.next ∨ G1.next ≤ B') ∧ IsBest G1 p B' kk A := by
        rcases hbj.norm with q | q
        · exact ⟨B, .inl ⟨rfl, q⟩, hbj1⟩
        · rcases hbj1.norm with r | r
          · rcases Nat.lt_or_ge B G.next with z | z
            · exact ⟨B, .inl ⟨rfl, z⟩, hbj1⟩
            · obtain ⟨s0, g0, o0⟩ := q.ex
              obtain ⟨rfl, rfl⟩ | ⟨_, _, _, _, _, _, _, _, _, q5⟩ := o0.ex
              · exact ⟨G1.next, .inr (Nat.le_refl _), ⟨⟨_, x1.get hpG (by simp) g0, ⟨.inl ⟨rfl, rfl⟩⟩⟩, hbj1.lt, by have := hbj1.lt; omega, Nat.zero_le _⟩⟩
              · omega
          · exact ⟨G1.next, .inr (Nat.le_refl _), r⟩
      refine put_wp' hbj' (by omega) L[j] _ fun G2 B2 x2 hB2 hb2 => ?_
      have n2 := x2.next
      have hA' : (putL kk A L[j]).2 = false → (putL kk A L[j]).1 = A := putL_no
      rw [← hsucc] at hb2 hs1 hlow1 hA'
      have hM' : (bestL kk (L.take (j + 1))).length ≤ 41 := by have := bestL_len kk (L.take (j + 1)); rw [List.length_take] at this; omega
      generalize hsucc2 : bestL kk (L.take (j + 1)) = A' at *
      have hlow1' : b1 < G1.next ∨ A' = [] := hlow1.imp id fun q => by simpa using q
      have hbB : A' = [] ∨ b1 ≠ B' := by
        rcases hlow1' with q | q
        · rcases hb1 with ⟨r1, r2⟩ | r1
          · have e := hA' r2
            rcases hne with z | z
            · exact .inl (e.trans z)
            · right; omega
          · right; omega
        · exact .inl q
      have hp1 : p < b1 := by omega
      have hs2 : Hs G2 b1 s1 A' := Sl.mono' hs1 x2 (fun q => by
        simp at q
        rcases hbB with z | z
        · rw [z]; rfl
        · omega)
      have hbB2 : A' = [] ∨ b1 ≠ B2 := by
        rcases hbB with z | z
        · exact .inl z
        · rcases hlow1' with q | q
          · right; omega
          · exact .inl q
      have hl2 := hs2.len
      have bb : ∀ x : Bool, (x != x) = false := fun x => by cases x <;> rfl
      rw [bool_neq, outP_val, bb]
      simp (disch := first | omega | exact one_int _ _ | exact one_slice _ _ _ _ | exact one_ptr _ | assumption | ((repeat (first | rw [next_new] | rw [AH.next_put] | rw [next_more])) <;> omega) | fail) only [outP_val, outP_enter, 
      w_pick_b, 
      boolIs_bool, guardP_true, beq_ff, Bool.not_false, 
      if_false, Bool.false_eq_true ]
      refine len_wp hb2 _ ?_
      have dl : decide ((A'.length : Int) = (A'.length : Int)) = true := by simp
      simp (disch := first | omega | exact one_int _ _ | exact one_slice _ _ _ _ | exact one_ptr _ | assumption | ((repeat (first | rw [next_new] | rw [AH.next_put] | rw [next_more])) <;> omega) | fail) only [outP_val, 
      w_neq, 
      condP_false, Bool.not_true, 
      decide_true, hl2 ]
      have e12 : Ext [] H G2 := (((e1.trans x1).mono (m' := [p, B']) (by simp)).trans x2).mono fun b hb hlt => by simp at hb; omega
      have hpG2 := hb2.lt
      have fin : ∀ G3 : AH, Ext [] G2 G3 → CC.call 22 [.ptr (some (p, 0))] G3 fun v53 H53 => CC.call 23 [v53, s1] H53 fun v54 H54 => outP CC H54 (w_un .not H54 v54) fun v55 H55 =>
          condP v55 (K (.bool false) H55) (rec (.int .i64 kk, s, .ptr (some (p, 0)), s1, .int .i64 ((j : Int) + 1)) H55) := by
        intro G3 x3
        have hb3 : IsBest G3 p B2 kk A' := hb2.mono x3 (by simp) (by simp)
        have hs3 : Hs G3 b1 s1 A' := hs2.mono x3 (by simp)
        refine all_wp hb3 (by omega) _ fun G4 s4 B4 x4 hB4 o4 => ?_
        refine hits_wp o4.sl (hs3.mono x4 (by simp)) (by omega) _ ?_
        rw [decide_eq_true rfl, w_not, outP_val, Bool.not_true, condP_false]
        refine hrec _ _ ⟨j + 1, B2, b1, s1, by rfl, by omega, by omega, e12.trans (x3.trans x4), by omega, hp1, ?_, ?_, ?_⟩ ?_
        · rw [hsucc2]; exact hb3.mono x4 (by simp) (by simp)
        · rw [hsucc2]; exact hs3.mono x4 (by simp)
        · rw [hsucc2]; exact hbB2
        · show 40 - ((j : Int) + 1).toNat < 40 - (j : Int).toNat
          omega
      by_cases hfull : 0 < kk ∧ A'.length = kk
      · refine worst_yes hb2 (by omega) hfull.1 hfull.2 _ fun G3 x3 => ?_
        have dk : decide (0 < (kk : Int)) = true := by simp; omega
        have dk2 : decide ((A'.length : Int) = (kk : Int)) = true := by simp; omega
        have hl1 : ((A'.length : Nat) : Int) - 1 = ((A'.length - 1 : Nat) : Int) := by omega
        have hs3 : Hs G3 b1 s1 A' := hs2.mono x3 (by simp)
        obtain ⟨o2, y1, y2, y3⟩ := Hs.at hs3 (j := A'.length - 1) (by omega)
        unfold hitA hitL at y3
        have x4 : Ext [] G3 ((G3.new (.cells 37 [.int .i64 0, .int .i64 0])).put G3.next (some (.cells 37 [.int .i64 (A'[A'.length - 1]'(by omega)).1, .int .i64 (A'[A'.length - 1]'(by omega)).2]))) := ((Ext.refl _ _).new _).put (.inl (Nat.le_refl _)) _
        have q := eqHit (H := (G3.new (.cells 37 [.int .i64 0, .int .i64 0])).put G3.next (some (.cells 37 [.int .i64 (A'[A'.length - 1]'(by omega)).1, .int .i64 (A'[A'.length - 1]'(by omega)).2]))) (A'[A'.length - 1]'(by omega)) (A'[A'.length - 1]'(by omega))
        unfold hitA hitL at q
        rw [decide_eq_true rfl] at q
        simp (disch := first | omega | exact one_int _ _ | exact one_slice _ _ _ _ | exact one_ptr _ | assumption | ((repeat (first | rw [next_new] | rw [AH.next_put] | rw [next_more])) <;> omega) | fail) only [outP_val, outP_skip, w_load_n, get_new_ne, get_put_same, get_put_ne, 
      ldN_pair, vO_some, 
      w_eql, w_not, w_pick_b, w_sub, wrap64_in, 
      condP_false, boolIs_bool, guardP_true, guardP_false, stN_two, beq_tt, beq_ff, Bool.not_true, Bool.not_false, 
      if_true, if_false, Bool.false_eq_true, w_ext0, w_ext1, hl2, dk, dk2, hl1, y1, y3, bool_neq, bb, q]
        exact fin _ (x3.trans x4)
      · refine worst_no hb2 (by have := hb2.len; omega) _ fun G3 x3 => ?_
        have x4 : Ext [] G3 ((G3.new (.cells 37 [.int .i64 0, .int .i64 0])).put G3.next (some (.cells 37 [.int .i64 0, .int .i64 0]))) := ((Ext.refl _ _).new _).put (.inl (Nat.le_refl _)) _
        have q := eqHit (H := (G3.new (.cells 37 [.int .i64 0, .int .i64 0])).put G3.next (some (.cells 37 [.int .i64 0, .int .i64 0]))) (0, 0) (0, 0)
        unfold hitA hitL at q
        rw [decide_eq_true rfl] at q
        by_cases hk0 : 0 < kk
        · have dk : decide (0 < (kk : Int)) = true := by simp; omega
          have dk2 : decide ((A'.length : Int) = (kk : Int)) = false := by simp; omega
          simp (disch := first | omega | exact one_int _ _ | exact one_slice _ _ _ _ | exact one_ptr _ | assumption | ((repeat (first | rw [next_new] | rw [AH.next_put] | rw [next_more])) <;> omega) | fail) only [outP_val, outP_skip, get_put_same, 
      ldN_pair, vO_some, 
      w_eql, w_not, w_pick_b, 
      condP_false, boolIs_bool, guardP_true, guardP_false, stN_two, beq_tt, beq_ff, Bool.not_true, Bool.not_false, 
      if_true, if_false, Bool.false_eq_true, w_ext0, w_ext1, hl2, dk, dk2, bool_neq, bb, q, hit_zero]
          exact fin _ (x3.trans x4)
        · have dk : decide (0 < (kk : Int)) = false := by simp; omega
          simp (disch := first | omega | exact one_int _ _ | exact one_slice _ _ _ _ | exact one_ptr _ | assumption | ((repeat (first | rw [next_new] | rw [AH.next_put] | rw [next_more])) <;> omega) | fail) only [outP_val, outP_skip, get_put_same, 
      ldN_pair, vO_some, 
      w_not, w_pick_b, 
      condP_false, boolIs_bool, guardP_true, guardP_false, stN_two, beq_tt, beq_ff, Bool.not_true, Bool.not_false, 
      if_true, if_false, Bool.false_eq_true, w_ext0, w_ext1, dk, bool_neq, bb, q, hit_zero]
          exact fin _ (x3.trans x4)
    · have d1 : decide ((j : Int) < (L.length : Int)) = true := by simpa using c1
      have d2 : decide ((j : Int) < 40) = false := by simp; omega
      simp (disch := first | omega | exact one_int _ _ | exact one_slice _ _ _ _ | exact one_ptr _ | assumption | ((repeat (first | rw [next_new] | rw [AH.next_put] | rw [next_more])) <;> omega) | fail) only [outP_val, outP_enter, w_load_n, get_new_eq, 
      w_lss, w_gtr, w_pick_b, w_add, wrap64_in, 
      w_min2_int, condP_false, boolIs_bool, guardP_true, w_alloc_none, w_store_c, beq_tt, 
      if_true, hlen, d1, d2]
      exact tail (by omega)
  · have d1 : decide ((j : Int) < (L.length : Int)) = false := by simpa using c1
    simp (disch := first | omega | exact one_int _ _ | exact one_slice _ _ _ _ | exact one_ptr _ | assumption | ((repeat (first | rw [next_new] | rw [AH.next_put] | rw [next_more])) <;> omega) | fail) only [outP_val, outP_enter, w_load_n, get_new_eq, 
      w_lss, w_gtr, w_pick_b, w_add, wrap64_in, 
      w_min2_int, condP_false, boolIs_bool, guardP_false, w_alloc_none, w_store_c, beq_tt, 
      if_false, Bool.false_eq_true, hlen, d1]
    exact tail (by omega)
end
end Go.Ab
