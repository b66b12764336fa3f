/- QuantAll: what it does, at any number, any vectors, any vector. -/
import Derived.Test.YtoafnnphjbdedaaGreatDoorRMake
import Derived.Test.YtoafnnphjbdedaaGreatDoorM10
namespace Go.Ab
noncomputable section
open Go.Proofs
set_option maxRecDepth 10000
variable {H H' : AH}

/-! The law, in plain numbers. -/
theorem getD_rangeMap (f : Nat → Int) {n i : Nat} (h : i < n) : ((List.range n).map f).getD i 0 = f i := by
  rw [List.getD_eq_getElem?_getD, List.getElem?_map, List.getElem?_range h]; rfl
theorem stpF_in {Y : List Vq} {dim : Int} (i : Nat) : 1 ≤ stpF (goodL Y dim) i ∧ stpF (goodL Y dim) i ≤ 10000 := by
  have h := lhF_in (Y := Y) (dim := dim) i
  exact stepZ_in h.1 h.2.1 h.2.2
theorem make_right (Y : List Vq) (dim : Int) : rightB (makeLo Y dim) (makeSt Y dim) = true :=
  (rightB_iff _ _).2 ⟨by simp [makeLo, makeSt], fun x hx => by obtain ⟨i, _, rfl⟩ := List.mem_map.1 hx; exact (stpF_in i).1⟩
theorem makeN_of {Y : List Vq} {dim : Int} {X : List Int} (h : X ∈ goodL Y dim) : makeN dim = X.length := by
  obtain ⟨y, hy, rfl⟩ := List.mem_map.1 h
  have := (mayB_iff _ _).1 (List.mem_filter.1 hy).2
  unfold makeN; rw [if_pos ⟨this.1, this.2.1⟩]; omega
theorem back_code {Y : List Vq} {dim : Int} {X : List Int} (h : X ∈ goodL Y dim) :
    backL (makeLo Y dim) (makeSt Y dim) (codeL (makeLo Y dim) (makeSt Y dim) X) = (List.range X.length).map fun i => backZ (lowF (goodL Y dim) i) (stpF (goodL Y dim) i) (codeZ (lowF (goodL Y dim) i) (stpF (goodL Y dim) i) (X.getD i 0)) := by
  have hr := make_right Y dim
  have hn := makeN_of h
  unfold backL codeL
  rw [if_pos hr, if_pos hr, show (makeLo Y dim).length = X.length by simp [makeLo, hn]]
  refine List.map_congr_left fun i hi => ?_
  have hi := List.mem_range.1 hi
  unfold backF
  rw [List.length_map, List.length_range, if_pos hi, getD_rangeMap _ hi]
  unfold codeF
  rw [if_pos hi]
  unfold makeLo makeSt
  rw [hn, getD_rangeMap _ hi, getD_rangeMap _ hi]
theorem boundL_in {Lo St : List Int} (h : In32 St) : 0 ≤ boundL Lo St ∧ boundL Lo St ≤ 1073741824 := by
  unfold boundL
  split
  · obtain ⟨h1, _, h3⟩ := bound_facts St 0
    rcases h3 with h3 | ⟨x, hx, h3⟩
    · omega
    · have := h x hx; omega
  · omega
theorem off_le {Y : List Vq} {dim : Int} {X : List Int} (h : X ∈ goodL Y dim) {i : Nat} (hi : i < X.length) :
    X[i] - backZ (lowF (goodL Y dim) i) (stpF (goodL Y dim) i) (codeZ (lowF (goodL Y dim) i) (stpF (goodL Y dim) i) X[i]) ≤ boundL (makeLo Y dim) (makeSt Y dim) ∧
    backZ (lowF (goodL Y dim) i) (stpF (goodL Y dim) i) (codeZ (lowF (goodL Y dim) i) (stpF (goodL Y dim) i) X[i]) - X[i] ≤ boundL (makeLo Y dim) (makeSt Y dim) := by
  have hg := goodL_in Y dim X h
  have hx := hg.2 X[i] (List.getElem_mem hi)
  obtain ⟨j, hj, hjX⟩ := List.getElem_of_mem h
  have hs := (lhS_spec (Z := goodL Y dim) i (goodL Y dim).length).1 j hj
  have e1 : (goodL Y dim).getD j [] = X := by rw [List.getD_eq_getElem?_getD, List.getElem?_eq_getElem hj, hjX]; rfl
  rw [e1, getD_at hi] at hs
  have hst := stpF_in (Y := Y) (dim := dim) i
  have hreach := stepZ_reach (low := (lhS (goodL Y dim) i (goodL Y dim).length).1) (high := (lhS (goodL Y dim) i (goodL Y dim).length).2)
  have hmem : stpF (goodL Y dim) i ∈ makeSt Y dim := List.mem_map.2 ⟨i, List.mem_range.2 (by rw [makeN_of h]; exact hi), rfl⟩
  have hb : (stpF (goodL Y dim) i + 1) / 2 ≤ boundL (makeLo Y dim) (makeSt Y dim) := by
    unfold boundL
    rw [if_pos (make_right Y dim)]
    exact (bound_facts (makeSt Y dim) 0).2.1 _ hmem
  have := codeZ_off (low := lowF (goodL Y dim) i) (step := stpF (goodL Y dim) i) (x := X[i]) (by omega) hs.1 (by
    show X[i] ≤ (lhS (goodL Y dim) i (goodL Y dim).length).1 + 255 * stepZ _ _
    omega) hx
  omega

/-! Are two books the same? -/
theorem books_wp {l1 s1 l2 s2 : AV} {b1 b2 b3 b4 : Nat} {Lo St : List Int} (h1 : Bk H l1 s1 b1 b2 Lo St) (h2 : Bk H l2 s2 b3 b4 Lo St) (hle : Lo.length = St.length) (K : AV → AH → Prop) (hK : ∀ H', Ext [] H H' → K (.bool true) H') :
    CC.call 36 [.agg [l1, s1], .agg [l2, s2]] H K := by
  refine m_fieldfarelaw7_books_ok _ _ _ _ ?_
  unfold m_fieldfarelaw7_books
  obtain ⟨f1, f2, _, f3⟩ := h1.lo.facts
  obtain ⟨g1, g2, _, g3⟩ := h1.st.facts
  obtain ⟨f4, f5, _, f6⟩ := h2.lo.facts
  obtain ⟨g4, g5, _, g6⟩ := h2.st.facts
  have hb1 := h1.lenL
  have a1 : [l1, s1].all AV.one = true := by simp [f1, g1]
  have a2 : [l2, s2].all AV.one = true := by simp [f4, g4]
  rw [w_box_c, parts_agg, a1, br_true, outP_val, w_box_c, parts_agg, a2, br_true, outP_val]
  have x1 : Ext [] H ((H.new (.cells 65 [l1, s1])).new (.cells 67 [l2, s2])) := ((Ext.refl _ _).new _).new _
  have p1 : ((H.new (.cells 65 [l1, s1])).new (.cells 67 [l2, s2])).get H.next = some (.cells 65 [l1, s1]) := by
    rw [get_new_ne _ (by rw [next_new]; omega), get_new_same]
  have p2 := get_new_same (H.new (.cells 65 [l1, s1])) (.cells 67 [l2, s2])
  rw [next_new] at p2 ⊢
  have h1 := h1.mono0 x1
  have h2 := h2.mono0 x1
  generalize (H.new (.cells 65 [l1, s1])).new (.cells 67 [l2, s2]) = G at *
  have k1 : w_load none G (.ptr (some (H.next, 0))) = some (.val l1 G) := by rw [w_load_c, p1, ldV_cells, show ([l1, s1] : List AV)[0]? = some l1 from rfl, ob_some, f2, vO_some]
  have k2 : w_load none G (.ptr (some (H.next, 1))) = some (.val s1 G) := by rw [w_load_c, p1, ldV_cells, show ([l1, s1] : List AV)[1]? = some s1 from rfl, ob_some, g2, vO_some]
  have k3 : w_load none G (.ptr (some (H.next + 1, 0))) = some (.val l2 G) := by rw [w_load_c, p2, ldV_cells, show ([l2, s2] : List AV)[0]? = some l2 from rfl, ob_some, f5, vO_some]
  have k4 : w_load none G (.ptr (some (H.next + 1, 1))) = some (.val s2 G) := by rw [w_load_c, p2, ldV_cells, show ([l2, s2] : List AV)[1]? = some s2 from rfl, ob_some, g5, vO_some]
  have n1 := h1.lo.len i32_sl
  have n2 := h1.st.len i32_sl
  have n3 := h2.lo.len i32_sl
  have n4 := h2.st.len i32_sl
  have dl : ∀ z : Int, decide (z = z) = true := fun z => decide_eq_true rfl
  unfold m_fieldfarelaw7_bookst
  rw [w_fieldAddr_ptr, outP_val, k1, outP_val, n1, outP_val, w_fieldAddr_ptr, outP_val, k3, outP_val, n3, outP_val, w_neq, outP_val, dl, Bool.not_true, boolIs_bool, beq_ff, Bool.not_false, guardP_true, w_fieldAddr_ptr, outP_val, guardP_true, k2, outP_val, guardP_true, n2, outP_val, guardP_true, w_fieldAddr_ptr, outP_val, guardP_true, k4, outP_val, guardP_true, n4, outP_val, guardP_true, w_neq, outP_val, dl, Bool.not_true, w_pick_b, outP_val, if_neg (by simp), condP_false]
  unfold m_fieldfarelaw7_bookstth
  rw [w_fieldAddr_ptr, outP_val, k1, outP_val, n1, outP_val]
  unfold m_fieldfarelaw7_bookstthtb
  refine loopP_rule (I := fun t G' => ∃ j : Nat, t = (.ptr (some (H.next, 0)), .ptr (some (H.next + 1, 0)), .int .i64 Lo.length, .int .i64 j) ∧ j ≤ Lo.length ∧ G' = G) (μ := fun t _ => match t.2.2.2 with | .int _ z => Lo.length - z.toNat | _ => 0) ?_ ⟨0, rfl, Nat.zero_le _, rfl⟩
  rintro t G' ⟨j, rfl, hj, rfl⟩ rec hrec
  unfold m_fieldfarelaw7_bookstthtbl
  rw [w_lss, outP_val]
  by_cases cj : j < Lo.length
  · obtain ⟨o1, a1, _, a3⟩ := h1.lo.at cj
    obtain ⟨o2, b1, _, b3⟩ := h2.lo.at cj
    obtain ⟨o3, c1, _, c3⟩ := h1.st.at (j := j) (by omega)
    obtain ⟨o4, d1, _, d3⟩ := h2.st.at (j := j) (by omega)
    rw [decide_eq_true (by omega), condP_true, w_fieldAddr_ptr, outP_val, k1, outP_val, a1, outP_val, w_load_c, a3, vO_some, outP_val, w_fieldAddr_ptr, outP_val, k3, outP_val, b1, outP_val, w_load_c, b3, vO_some, outP_val, w_neq, outP_val, dl, Bool.not_true, boolIs_bool, beq_ff, Bool.not_false,
      guardP_true, w_fieldAddr_ptr, outP_val, guardP_true, k2, outP_val, guardP_true, outP_val, guardP_true, c1, outP_val, guardP_true, w_load_c, c3, vO_some, outP_val, guardP_true, w_fieldAddr_ptr, outP_val, guardP_true, k4, outP_val, guardP_true, outP_val, guardP_true, d1, outP_val, guardP_true, w_load_c, d3, vO_some, outP_val, guardP_true, w_neq, outP_val, dl, Bool.not_true, w_pick_b, outP_val, if_neg (by simp), condP_false, w_add_in (by omega) (by omega), outP_val]
    refine hrec _ _ ⟨j + 1, by rfl, by omega, rfl⟩ ?_
    show Lo.length - ((j : Int) + 1).toNat < Lo.length - (j : Int).toNat
    omega
  · rw [decide_eq_false (by omega), condP_false]
    exact hK _ x1

theorem w_str_ne (a b : List UInt8) : w_str .neq H (.str a) (.str b) = some (.val (.bool (!decide (a = b))) H) := by
  have h : strEq a b = decide (a = b) := by rw [Bool.eq_iff_iff, strEq_eq, beq_iff_eq, decide_eq_true_iff]
  show vO H (some (.bool (not (strEq a b)))) = _
  rw [h]; rfl
theorem codeL_in (Lo St V : List Int) : In8 (codeL Lo St V) := by
  intro x hx
  unfold codeL at hx
  split at hx
  · obtain ⟨i, _, rfl⟩ := List.mem_map.1 hx
    unfold codeF; split
    · exact codeZ_ge _ _ _
    · omega
  · cases hx
theorem codeL_len (Lo St V : List Int) : (codeL Lo St V).length ≤ Lo.length := by
  unfold codeL; split
  · simp
  · simp
theorem backL_len (Lo St V : List Int) : (backL Lo St V).length ≤ Lo.length := by
  unfold backL; split
  · simp
  · simp

theorem quantAll_wp {b bv : Nat} {s v : AV} {Y : List Vq} {V : List Int} (dim : Int) (h : Sl H 1 b s (vrow Y)) (hy : ∀ y ∈ Y, VEl H y) (hv : Is .i32 H bv v V) (hV : In32 V) (hl : Laid H) (K : AV → AH → Prop) (hK : ∀ H', Ext [] H H' → K (.bool true) H') :
    CC.call 10 [.int .i64 dim, s, v] H K := by
  refine m_fieldfarelaw7_QuantAll_ok _ _ _ _ _ ?_
  unfold m_fieldfarelaw7_QuantAll m_fieldfarelaw7_QuantAllt
  rw [outP_enter]
  refine begun_wp hl _ ?_
  unfold m_fieldfarelaw7_QuantAlltt
  rw [w_not, outP_val, Bool.not_true, condP_false]
  unfold m_fieldfarelaw7_QuantAllttt
  rw [vrow_len h, outP_val, w_min2_int, outP_val, show min (Y.length : Int) 20 = ((min Y.length 20 : Nat) : Int) by omega]
  obtain ⟨s', c1, c2⟩ := Sl.cut h (hasHi := true) none (some (.i64, min Y.length 20)) (Nat.zero_le _) (show min Y.length 20 ≤ (vrow Y).length by rw [List.length_map]; omega)
  refine st (c1 _) ?_
  have e : (List.drop (loN 0 none) (vrow Y)).take (loN (vrow Y).length (some (.i64, min Y.length 20)) - loN 0 none) = vrow (Y.take (min Y.length 20)) := by
    show (List.drop 0 (vrow Y)).take (min Y.length 20 - 0) = _
    rw [List.drop_zero, Nat.sub_zero]; exact List.map_take.symm
  rw [e] at c2
  have hy : ∀ y ∈ Y.take (min Y.length 20), VEl H y := fun y q => hy y (List.mem_of_mem_take q)
  have hYl : (Y.take (min Y.length 20)).length ≤ 20 := by rw [List.length_take]; omega
  clear e c1 h
  generalize Y.take (min Y.length 20) = Z at *
  unfold m_fieldfarelaw7_QuantAlltttt
  rw [outP_enter]
  refine make_wp c2 (by omega) hy dim _ fun G1 l1 s1 b1 b2 x1 hb1 hb2 k1 => ?_
  rw [outP_enter]
  refine rMake_wp (c2.mono x1 (by simp)) (by omega) (fun y q => (hy y q).mono0 x1) dim _ fun G2 l2 s2 b3 b4 x2 hb3 hb4 k2 => ?_
  have hright := make_right Z dim
  have hle := ((rightB_iff _ _).1 hright).1
  obtain ⟨f1, f2, _, f3⟩ := k1.lo.facts
  obtain ⟨g1, g2, _, g3⟩ := k1.st.facts
  obtain ⟨f4, f5, _, f6⟩ := k2.lo.facts
  obtain ⟨g4, g5, _, g6⟩ := k2.st.facts
  have sk1 := Sl.slk k1.lo
  have sk2 := Sl.slk k1.st
  have sk3 := Sl.slk k2.lo
  have sk4 := Sl.slk k2.st
  rw [w_alloc_none, outP_val, w_alloc_none, outP_val, w_store_c, get_new_ne _ (by rw [next_new]; omega), get_new_same, stN_two _ _ _ _ _ _ f1 g1, outP_skip, w_store_c, get_put_ne _ (by rw [next_new]; omega), get_new_same, stN_two _ _ _ _ _ _ f4 g4, outP_skip]
  have x3 : Ext [] G2 ((((G2.new (.cells 65 [.slice none 0 0 true, .slice none 0 0 true])).new (.cells 67 [.slice none 0 0 true, .slice none 0 0 true])).put G2.next (some (.cells 65 [l1, s1]))).put (G2.new (.cells 65 [.slice none 0 0 true, .slice none 0 0 true])).next (some (.cells 67 [l2, s2]))) :=
    ((((Ext.refl _ _).new _).new _).put (.inl (Nat.le_refl _)) _).put (.inl (by rw [next_new]; omega)) _
  have hp : ((((G2.new (.cells 65 [.slice none 0 0 true, .slice none 0 0 true])).new (.cells 67 [.slice none 0 0 true, .slice none 0 0 true])).put G2.next (some (.cells 65 [l1, s1]))).put (G2.new (.cells 65 [.slice none 0 0 true, .slice none 0 0 true])).next (some (.cells 67 [l2, s2]))).get G2.next = some (.cells 65 [l1, s1]) := by
    rw [get_put_ne _ (by rw [next_new]; omega), get_put_same]
  have hq := get_put_same (H := ((G2.new (.cells 65 [.slice none 0 0 true, .slice none 0 0 true])).new (.cells 67 [.slice none 0 0 true, .slice none 0 0 true])).put G2.next (some (.cells 65 [l1, s1]))) (G2.new (.cells 65 [.slice none 0 0 true, .slice none 0 0 true])).next (some (.cells 67 [l2, s2]))
  have hn : ((((G2.new (.cells 65 [.slice none 0 0 true, .slice none 0 0 true])).new (.cells 67 [.slice none 0 0 true, .slice none 0 0 true])).put G2.next (some (.cells 65 [l1, s1]))).put (G2.new (.cells 65 [.slice none 0 0 true, .slice none 0 0 true])).next (some (.cells 67 [l2, s2]))).next = G2.next + 2 := by
    rw [AH.next_put, AH.next_put, next_new, next_new]
  rw [next_new] at x3 hp hq hn ⊢
  generalize (((G2.new (.cells 65 [.slice none 0 0 true, .slice none 0 0 true])).new (.cells 67 [.slice none 0 0 true, .slice none 0 0 true])).put G2.next (some (.cells 65 [l1, s1]))).put (G2.next + 1) (some (.cells 67 [l2, s2])) = G at *
  generalize G2.next = p at *
  have x12 := x1.trans x2
  have x13 := x12.trans x3
  have k1 := (k1.mono0 x2).mono0 x3
  have k2 := k2.mono0 x3
  have c2 : Sl G 1 b s' (vrow Z) := c2.mono x13 (by simp)
  have hy : ∀ y ∈ Z, VEl G y := fun y q => (hy y q).mono0 x13
  have hv : Is .i32 G bv v V := Sl.mono hv x13 (by simp)
  have hbi := boundL_in (Lo := makeLo Z dim) k1.inS
  have back := @back_code Z dim
  have off := @off_le Z dim
  have hLl := k1.lenL
  have hN : (makeLo Z dim).length = makeN dim := by simp [makeLo]
  have hmn := @makeN_of Z dim
  have hgood : ∀ y ∈ Z, mayB y.2.2 dim = true → y.2.2 ∈ goodL Z dim := fun y q r => List.mem_map.2 ⟨y, List.mem_filter.2 ⟨q, r⟩, rfl⟩
  generalize hLo : makeLo Z dim = Lo at *
  generalize hSt : makeSt Z dim = St at *
  have ldp : ∀ G' : AH, Ext [] G G' → w_load (some 2) G' (.ptr (some (p, 0))) = some (.val (.agg [l1, s1]) G') := fun G' e => by
    rw [w_load_n, e.get (by omega) (by simp) hp, ldN_two _ f3 g3, vO_some]
  have ldq : ∀ G' : AH, Ext [] G G' → w_load (some 2) G' (.ptr (some (p + 1, 0))) = some (.val (.agg [l2, s2]) G') := fun G' e => by
    rw [w_load_n, e.get (by omega) (by simp) hq, ldN_two _ f6 g6, vO_some]
  have r0 := Ext.refl [] G
  have dl : ∀ z : Int, decide (z = z) = true := fun z => decide_eq_true rfl
  unfold m_fieldfarelaw7_QuantAllttttt
  rw [ldp _ r0, outP_val, ldq _ r0, outP_val, outP_enter]
  refine books_wp k1 k2 hle _ fun G3 x4 => ?_
  rw [w_not, outP_val, Bool.not_true, boolIs_bool, beq_ff, Bool.not_false, guardP_true, ldp _ x4, outP_val, guardP_true, ldq _ x4, outP_val, guardP_true, outP_enter]
  refine qBound_wp (k1.mono0 x4) _ fun G4 x5 => ?_
  have x45 := x4.trans x5
  rw [ldq _ x45, reC_val, beq_two sk3 sk4, ckP_true, guardP_true, outP_enter]
  refine rBound_wp (k2.mono0 x45) _ fun G5 x6 => ?_
  have x46 := x45.trans x6
  rw [guardP_true, w_neq, outP_val, dl, Bool.not_true, w_pick_b, outP_val, if_neg (by simp), condP_false]
  unfold m_fieldfarelaw7_QuantAlltttttt
  have hv5 : Is .i32 G5 bv v V := Sl.mono hv x46 (by simp)
  rw [hv5.len vec_sl, outP_val, w_min2_int, outP_val, show min (V.length : Int) 10 = ((min V.length 10 : Nat) : Int) by omega]
  obtain ⟨v', e1, hv'⟩ := hv5.cut (min V.length 10) (Nat.min_le_left _ _)
  have hV' : In32 (V.take (min V.length 10)) := fun x hx => hV x (List.mem_of_mem_take hx)
  have hVl' : (V.take (min V.length 10)).length ≤ 10 := by rw [List.length_take]; omega
  rw [e1, outP_val]
  clear e1 hv5
  generalize V.take (min V.length 10) = W at *
  unfold m_fieldfarelaw7_QuantAllttttttt
  rw [ldp _ x46, outP_val, outP_enter]
  refine qCode_wp (k1.mono0 x46) hv' hV' (by omega) _ fun G6 c B6 x7 hB6 o6 => ?_
  have x47 := x46.trans x7
  have hcl := codeL_len Lo St W
  have hci := codeL_in Lo St W
  have t1 : ∀ G' : AH, Ext [] G6 G' → w_conv .text G' c none = some (.val (.str (txt (codeL Lo St W))) G') := fun G' e => conv_text (Sl.mono o6.is e (by simp))
  unfold m_fieldfarelaw7_QuantAlltttttttt
  rw [t1 _ (Ext.refl _ _), outP_val, ldq _ x47, outP_val, outP_enter]
  refine rCode_wp (k2.mono0 x47) (Sl.mono hv' x7 (by simp)) hV' (by omega) _ fun G7 c' B7 x8 hB7 o7 => ?_
  have x48 := x47.trans x8
  rw [t1 _ x8, reC_val, beq_str, ckP_true, conv_text o7.is, outP_val, w_str_ne, outP_val, decide_eq_true rfl, Bool.not_true, boolIs_bool, beq_ff, Bool.not_false, guardP_true, ldp _ x48, outP_val, guardP_true, outP_val, guardP_true, ldq _ x48, outP_val, guardP_true, outP_val, guardP_true, outP_enter]
  have o6' : Is .u8 G7 B6 c (codeL Lo St W) := Sl.mono o6.is x8 (by simp)
  refine qBack_wp (k1.mono0 x48) o6' hci (by omega) _ fun G8 y1 B8 x9 hB8 o8 => ?_
  have x49 := x48.trans x9
  rw [ldq _ x49, reC_val, beq_two sk3 sk4, ckP_true, guardP_true, outP_enter]
  refine rBack_wp (k2.mono0 x49) (Sl.mono o6' x9 (by simp)) hci (by omega) _ fun G9 y2 B9 x10 hB9 o9 => ?_
  have x50 := x49.trans x10
  have hbl := backL_len Lo St (codeL Lo St W)
  rw [guardP_true, outP_enter]
  refine vecEq_wp (Sl.mono o8.is x10 (by simp)) o9.is (by omega) _ ?_
  rw [decide_eq_true rfl, guardP_true, w_not, outP_val, Bool.not_true, w_pick_b, outP_val, if_neg (by simp), condP_false]
  unfold m_fieldfarelaw7_QuantAllttttttttth
  rw [vrow_len (c2.mono x50 (by simp)), outP_val]
  unfold m_fieldfarelaw7_QuantAllttttttttthtb
  refine loopP_rule (I := fun t G' => ∃ k : Nat, t = (.int .i64 dim, .ptr (some (p, 0)), s', .int .i64 Z.length, .int .i64 k) ∧ k ≤ Z.length ∧ Ext [] G G') (μ := fun t _ => match t.2.2.2.2 with | .int _ z => Z.length - z.toNat | _ => 0) ?_ ⟨0, rfl, Nat.zero_le _, x50⟩
  rintro t G' ⟨k, rfl, hk, e⟩ rec hrec
  unfold m_fieldfarelaw7_QuantAllttttttttthtbl
  rw [w_lss, outP_val]
  unfold m_fieldfarelaw7_QuantAllttttttttthtblt
  by_cases ck : k < Z.length
  · rw [decide_eq_true (by omega), condP_true]
    unfold m_fieldfarelaw7_QuantAllttttttttthtbltthb
    obtain ⟨o, a1, a2, a3⟩ := vrow_at (c2.mono e (by simp)) ck
    have hx := (hy _ (List.getElem_mem ck)).mono0 e
    rw [a1, outP_val, w_load_c, a3, vO_some, outP_val]
    unfold m_fieldfarelaw7_QuantAllttttttttthtbltthbt
    rw [outP_enter]
    refine rMay_wp hx.is dim _ ?_
    have dec : Z.length - ((k : Int) + 1).toNat < Z.length - (k : Int).toNat := by omega
    cases hm : mayB Z[k].2.2 dim with
    | false =>
      rw [w_not, outP_val, Bool.not_false, condP_true, w_add_in (by omega) (by omega), outP_val]
      exact hrec _ _ ⟨k + 1, by rfl, by omega, e⟩ dec
    | true =>
      have hX := hgood _ (List.getElem_mem ck) hm
      have hXn := hmn hX
      have hmv := (mayB_iff _ _).1 hm
      rw [w_not, outP_val, Bool.not_true, condP_false]
      unfold m_fieldfarelaw7_QuantAllttttttttthtbltthbtt
      rw [ldp _ e, outP_val, ldp _ e, outP_val, outP_enter]
      refine qCode_wp (k1.mono0 e) hx.is hx.in32 (by omega) _ fun J1 cc Bc z1 hBc oc => ?_
      have e1 := e.trans z1
      rw [ldp _ e1, reC_val, beq_two sk1 sk2, ckP_true, outP_enter]
      have hcl2 := codeL_len Lo St Z[k].2.2
      refine qBack_wp (k1.mono0 e1) oc.is (codeL_in _ _ _) (by omega) _ fun J2 yy By z2 hBy oy => ?_
      have e2 := e1.trans z2
      rw [back hX] at oy
      have offX := fun i hi => off hX (i := i) hi
      have hxy := (hx.mono0 z1).mono0 z2
      unfold m_fieldfarelaw7_QuantAllttttttttthtbltthbttt
      have ly := oy.is.len vec_sl
      have lx := hxy.is.len vec_sl
      rw [List.length_map, List.length_range] at ly
      rw [ly, outP_val, lx, outP_val, w_neq, outP_val, dl, Bool.not_true, condP_false]
      unfold m_fieldfarelaw7_QuantAllttttttttthtbltthbtttt
      rw [lx, outP_val]
      unfold m_fieldfarelaw7_QuantAllttttttttthtbltthbtttttb
      refine loopP_rule (I := fun t J => ∃ i : Nat, t = (.int .i64 dim, .ptr (some (p, 0)), Z[k].1, yy, s', .int .i64 Z.length, .int .i64 k, .int .i64 Z[k].2.2.length, .int .i64 i) ∧ i ≤ Z[k].2.2.length ∧ Ext [] J2 J) (μ := fun t _ => match t.2.2.2.2.2.2.2.2 with | .int _ z => Z[k].2.2.length - z.toNat | _ => 0) ?_ ⟨0, rfl, Nat.zero_le _, Ext.refl _ _⟩
      rintro t J ⟨i, rfl, hi, ej⟩ rec2 hrec2
      unfold m_fieldfarelaw7_QuantAllttttttttthtbltthbtttttbl
      have e3 := e2.trans ej
      rw [w_lss, outP_val]
      by_cases ci : i < Z[k].2.2.length
      · obtain ⟨o1, b1, _, b3⟩ := (hxy.mono0 ej).is.at ci
        obtain ⟨o2, d1, _, d3⟩ := (show Is .i32 J By yy _ from Sl.mono oy.is ej (by simp)).at (j := i) (by simp; exact ci)
        rw [List.getElem_map, List.getElem_range, getD_at ci] at d3
        have hxi := hx.in32 _ (List.getElem_mem ci)
        have hbz : ∀ a b c : Int, -1048576 ≤ backZ a b c ∧ backZ a b c ≤ 1048576 := fun a b c => by unfold backZ; omega
        have hof := offX i ci
        have hb := hbz (lowF (goodL Z dim) i) (stpF (goodL Z dim) i) (codeZ (lowF (goodL Z dim) i) (stpF (goodL Z dim) i) Z[k].2.2[i])
        generalize backZ (lowF (goodL Z dim) i) (stpF (goodL Z dim) i) (codeZ (lowF (goodL Z dim) i) (stpF (goodL Z dim) i) Z[k].2.2[i]) = y at *
        generalize Z[k].2.2[i] = x at *
        rw [decide_eq_true (by omega), condP_true, b1, outP_val, w_load_c, b3, vO_some, outP_val, w_cint, outP_val, wrap64_32 hxi, d1, outP_val, w_load_c, d3, vO_some, outP_val, w_cint, outP_val, wrap64_in (by omega) (by omega), w_sub, outP_val, wrap64_in (by omega) (by omega), ldp _ e3, outP_val, outP_enter]
        refine qBound_wp (k1.mono0 e3) _ fun J3 z3 => ?_
        have e4 := e3.trans z3
        rw [w_cint, outP_val, wrap64_in (by omega) (by omega), w_gtr, outP_val, decide_eq_false (by omega), boolIs_bool, beq_ff, Bool.not_false, guardP_true, outP_val, guardP_true, w_neg, outP_val, wrap64_in (by omega) (by omega), guardP_true, ldp _ e4, outP_val, guardP_true, outP_enter]
        refine qBound_wp (k1.mono0 e4) _ fun J4 z4 => ?_
        rw [guardP_true, w_cint, outP_val, wrap64_in (by omega) (by omega), guardP_true, w_gtr, outP_val, decide_eq_false (by omega), w_pick_b, outP_val, if_neg (by simp), condP_false, w_add_in (by omega) (by omega), outP_val]
        refine hrec2 _ _ ⟨i + 1, by rfl, by omega, ej.trans (z3.trans z4)⟩ ?_
        show Z[k].2.2.length - ((i : Int) + 1).toNat < Z[k].2.2.length - (i : Int).toNat
        omega
      · rw [decide_eq_false (by omega), condP_false, w_add_in (by omega) (by omega), outP_val]
        exact hrec _ _ ⟨k + 1, by rfl, by omega, e3⟩ dec
  · rw [decide_eq_false (by omega), condP_false]
    exact hK _ (x13.trans e)
end
end Go.Ab
