/- QuantAll: what it does, at any number, any vectors, any vector. -/
import Derived.Test.YtapkhdlohcbcmaaGreatDoorRMake
namespace Go.Ab
noncomputable section
open Go.Proofs
set_option maxRecDepth 10000
variable {H H' : AH}

/-! The law, in plain numbers. -/
theorem getD_rangeMap (f : Nat → Int) {n i : Nat} (h : i < n) : ((List.range n).map f).getD i 0 = f i := by
  rw [List.getD_eq_getElem?_getD, List.getElem?_map, List.getElem?_range h]; rfl
theorem stpF_in {Y : List Vq} {dim : Int} (i : Nat) : 1 ≤ stpF (goodL Y dim) i ∧ stpF (goodL Y dim) i ≤ 10000 := by
  have h := lhF_in (Y := Y) (dim := dim) i
  exact stepZ_in h.1 h.2.1 h.2.2
theorem make_right (Y : List Vq) (dim : Int) : rightB (makeLo Y dim) (makeSt Y dim) = true :=
  (rightB_iff _ _).2 ⟨by simp [makeLo, makeSt], fun x hx => by obtain ⟨i, _, rfl⟩ := List.mem_map.1 hx; exact (stpF_in i).1⟩
theorem makeN_of {Y : List Vq} {dim : Int} {X : List Int} (h : X ∈ goodL Y dim) : makeN dim = X.length := by
  obtain ⟨y, hy, rfl⟩ := List.mem_map.1 h
  have := (mayB_iff _ _).1 (List.mem_filter.1 hy).2
  unfold makeN; rw [if_pos ⟨this.1, this.2.1⟩]; omega
theorem back_code {Y : List Vq} {dim : Int} {X : List Int} (h : X ∈ goodL Y dim) :
    backL (makeLo Y dim) (makeSt Y dim) (codeL (makeLo Y dim) (makeSt Y dim) X) = (List.range X.length).map fun i => backZ (lowF (goodL Y dim) i) (stpF (goodL Y dim) i) (codeZ (lowF (goodL Y dim) i) (stpF (goodL Y dim) i) (X.getD i 0)) := by
  have hr := make_right Y dim
  have hn := makeN_of h
  unfold backL codeL
  rw [if_pos hr, if_pos hr, show (makeLo Y dim).length = X.length by simp [makeLo, hn]]
  refine List.map_congr_left fun i hi => ?_
  have hi := List.mem_range.1 hi
  unfold backF
  rw [List.length_map, List.length_range, if_pos hi, getD_rangeMap _ hi]
  unfold codeF
  rw [if_pos hi]
  unfold makeLo makeSt
  rw [hn, getD_rangeMap _ hi, getD_rangeMap _ hi]
theorem boundL_in {Lo St : List Int} (h : In32 St) : 0 ≤ boundL Lo St ∧ boundL Lo St ≤ 1073741824 := by
  unfold boundL
  split
  · obtain ⟨h1, _, h3⟩ := bound_facts St 0
    rcases h3 with h3 | ⟨x, hx, h3⟩
    · omega
    · have := h x hx; omega
  · omega
theorem off_le {Y : List Vq} {dim : Int} {X : List Int} (h : X ∈ goodL Y dim) {i : Nat} (hi : i < X.length) :
    X[i] - backZ (lowF (goodL Y dim) i) (stpF (goodL Y dim) i) (codeZ (lowF (goodL Y dim) i) (stpF (goodL Y dim) i) X[i]) ≤ boundL (makeLo Y dim) (makeSt Y dim) ∧
    backZ (lowF (goodL Y dim) i) (stpF (goodL Y dim) i) (codeZ (lowF (goodL Y dim) i) (stpF (goodL Y dim) i) X[i]) - X[i] ≤ boundL (makeLo Y dim) (makeSt Y dim) := by
  have hg := goodL_in Y dim X h
  have hx := hg.2 X[i] (List.getElem_mem hi)
  obtain ⟨j, hj, hjX⟩ := List.getElem_of_mem h
  have hs := (lhS_spec (Z := goodL Y dim) i (goodL Y dim).length).1 j hj
  have e1 : (goodL Y dim).getD j [] = X := by rw [List.getD_eq_getElem?_getD, List.getElem?_eq_getElem hj, hjX]; rfl
  rw [e1, getD_at hi] at hs
  have hst := stpF_in (Y := Y) (dim := dim) i
  have hreach := stepZ_reach (low := (lhS (goodL Y dim) i (goodL Y dim).length).1) (high := (lhS (goodL Y dim) i (goodL Y dim).length).2)
  have hmem : stpF (goodL Y dim) i ∈ makeSt Y dim := List.mem_map.2 ⟨i, List.mem_range.2 (by rw [makeN_of h]; exact hi), rfl⟩
  have hb : (stpF (goodL Y dim) i + 1) / 2 ≤ boundL (makeLo Y dim) (makeSt Y dim) := by
    unfold boundL
    rw [if_pos (make_right Y dim)]
    exact (bound_facts (makeSt Y dim) 0).2.1 _ hmem
  have := codeZ_off (low := lowF (goodL Y dim) i) (step := stpF (goodL Y dim) i) (x := X[i]) (by omega) hs.1 (by
    show X[i] ≤ (lhS (goodL Y dim) i (goodL Y dim).length).1 + 255 * stepZ _ _
    omega) hx
  omega

/-! Are two books the same? -/
theorem books_wp {l1 s1 l2 s2 : AV} {b1 b2 b3 b4 : Nat} {Lo St : List Int} (h1 : Bk H l1 s1 b1 b2 Lo St) (h2 : Bk H l2 s2 b3 b4 Lo St) (hle : Lo.length = St.length) (K : AV → AH → Prop) (hK : ∀ H', Ext [] H H' → K (.bool true) H') :
    CC.call 26 [.agg [l1, s1], .agg [l2, s2]] H K := by
  refine m_fieldfarelaw7_books_ok _ _ _ _ ?_
  unfold m_fieldfarelaw7_books
  obtain ⟨f1, f2, _, f3⟩ := h1.lo.facts
  obtain ⟨g1, g2, _, g3⟩ := h1.st.facts
  obtain ⟨f4, f5, _, f6⟩ := h2.lo.facts
  obtain ⟨g4, g5, _, g6⟩ := h2.st.facts
  have hb1 := h1.lenL
  have a1 : [l1, s1].all AV.one = true := by simp [f1, g1]
  have a2 : [l2, s2].all AV.one = true := by simp [f4, g4]
  rw [w_box_c, parts_agg, a1, br_true, outP_val, w_box_c, parts_agg, a2, br_true, outP_val]
  have x1 : Ext [] H ((H.new (.cells 47 [l1, s1])).new (.cells 54 [l2, s2])) := ((Ext.refl _ _).new _).new _
  have p1 : ((H.new (.cells 47 [l1, s1])).new (.cells 54 [l2, s2])).get H.next = some (.cells 47 [l1, s1]) := by
    rw [get_new_ne _ (by rw [next_new]; omega), get_new_same]
  have p2 := get_new_same (H.new (.cells 47 [l1, s1])) (.cells 54 [l2, s2])
  rw [next_new] at p2 ⊢
  have h1 := h1.mono0 x1
  have h2 := h2.mono0 x1
  generalize (H.new (.cells 47 [l1, s1])).new (.cells 54 [l2, s2]) = G at *
  have k1 : w_load none G (.ptr (some (H.next, 0))) = some (.val l1 G) := by rw [w_load_c, p1, ldV_cells, show ([l1, s1] : List AV)[0]? = some l1 from rfl, ob_some, f2, vO_some]
  have k2 : w_load none G (.ptr (some (H.next, 1))) = some (.val s1 G) := by rw [w_load_c, p1, ldV_cells, show ([l1, s1] : List AV)[1]? = some s1 from rfl, ob_some, g2, vO_some]
  have k3 : w_load none G (.ptr (some (H.next + 1, 0))) = some (.val l2 G) := by rw [w_load_c, p2, ldV_cells, show ([l2, s2] : List AV)[0]? = some l2 from rfl, ob_some, f5, vO_some]
  have k4 : w_load none G (.ptr (some (H.next + 1, 1))) = some (.val s2 G) := by rw [w_load_c, p2, ldV_cells, show ([l2, s2] : List AV)[1]? = some s2 from rfl, ob_some, g5, vO_some]
  have n1 := h1.lo.len i32_sl
  have n2 := h1.st.len i32_sl
  have n3 := h2.lo.len i32_sl
  have n4 := h2.st.len i32_sl
  have dl : ∀ z : Int, decide (z = z) = true := fun z => decide_eq_true rfl
  unfold m_fieldfarelaw7_bookst
  rw [w_fieldAddr_ptr, outP_val, k1, outP_val, n1, outP_val, w_fieldAddr_ptr, outP_val, k3, outP_val, n3, outP_val, w_neq, outP_val, dl, Bool.not_true, boolIs_bool, beq_ff, Bool.not_false, guardP_true, w_fieldAddr_ptr, outP_val, guardP_true, k2, outP_val, guardP_true, n2, outP_val, guardP_true, w_fieldAddr_ptr, outP_val, guardP_true, k4, outP_val, guardP_true, n4, outP_val, guardP_true, w_neq, outP_val, dl, Bool.not_true, w_pick_b, outP_val, if_neg (by simp), condP_false]
  unfold m_fieldfarelaw7_bookstth
  rw [w_fieldAddr_ptr, outP_val, k1, outP_val, n1, outP_val]
  unfold m_fieldfarelaw7_bookstthtb
  refine loopP_rule (I := fun t G' => ∃ j : Nat, t = (.ptr (some (H.next, 0)), .ptr (some (H.next + 1, 0)), .int .i64 Lo.length, .int .i64 j) ∧ j ≤ Lo.length ∧ G' = G) (μ := fun t _ => match t.2.2.2 with | .int _ z => Lo.length - z.toNat | _ => 0) ?_ ⟨0, rfl, Nat.zero_le _, rfl⟩
  rintro t G' ⟨j, rfl, hj, rfl⟩ rec hrec
  unfold m_fieldfarelaw7_bookstthtbl
  rw [w_lss, outP_val]
  by_cases cj : j < Lo.length
  · obtain ⟨o1, a1, _, a3⟩ := h1.lo.at cj
    obtain ⟨o2, b1, _, b3⟩ := h2.lo.at cj
    obtain ⟨o3, c1, _, c3⟩ := h1.st.at (j := j) (by omega)
    obtain ⟨o4, d1, _, d3⟩ := h2.st.at (j := j) (by omega)
    rw [decide_eq_true (by omega), condP_true, w_fieldAddr_ptr, outP_val, k1, outP_val, a1, outP_val, w_load_c, a3, vO_some, outP_val, w_fieldAddr_ptr, outP_val, k3, outP_val, b1, outP_val, w_load_c, b3, vO_some, outP_val, w_neq, outP_val, dl, Bool.not_true, boolIs_bool, beq_ff, Bool.not_false,
      guardP_true, w_fieldAddr_ptr, outP_val, guardP_true, k2, outP_val, guardP_true, outP_val, guardP_true, c1, outP_val, guardP_true, w_load_c, c3, vO_some, outP_val, guardP_true, w_fieldAddr_ptr, outP_val, guardP_true, k4, outP_val, guardP_true, outP_val, guardP_true, d1, outP_val, guardP_true, w_load_c, d3, vO_some, outP_val, guardP_true, w_neq, outP_val, dl, Bool.not_true, w_pick_b, outP_val, if_neg (by simp), condP_false, w_add_in (by omega) (by omega), outP_val]
    refine hrec _ _ ⟨j + 1, by rfl, by omega, rfl⟩ ?_
    show Lo.length - ((j : Int) + 1).toNat < Lo.length - (j : Int).toNat
    omega
  · rw [decide_eq_false (by omega), condP_false]
    exact hK _ x1

theorem w_str_ne (a b : List UInt8) : w_str .neq H (.str a) (.str b) = some (.val (.bool (!decide (a = b))) H) := by
  have h : strEq a b = decide (a = b) := by rw [Bool.eq_iff_iff, strEq_eq, beq_iff_eq, decide_eq_true_iff]
  show vO H (some (.bool (not (strEq a b)))) = _
  rw [h]; rfl
theorem codeL_in (Lo St V : List Int) : In8 (codeL Lo St V) := by
  intro x hx
  unfold codeL at hx
  split at hx
  · obtain ⟨i, _, rfl⟩ := List.mem_map.1 hx
    unfold codeF; split
    · exact codeZ_ge _ _ _
    · omega
  · cases hx
theorem codeL_len (Lo St V : List Int) : (codeL Lo St V).length ≤ Lo.length := by
  unfold codeL; split
  · simp
  · simp
theorem backL_len (Lo St V : List Int) : (backL Lo St V).length ≤ Lo.length := by
  unfold backL; split
  · simp
  · simp

end
end Go.Ab
