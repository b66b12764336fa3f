/- QuantAny: what it does, at any numbers. -/
import Derived.Test.YtoafnnphjbdedaaGreatDoorQuantD
namespace Go.Ab
noncomputable section
open Go.Proofs
set_option maxRecDepth 10000
variable {H H' : AH}

theorem take_in {P : Int → Prop} {L : List Int} (h : ∀ x ∈ L, P x) (n : Nat) : ∀ x ∈ L.take n, P x := fun x hx => h x (List.mem_of_mem_take hx)
theorem min9 (n : Nat) : min (n : Int) 9 = ((min n 9 : Nat) : Int) := by omega
/-- Of a book and a vector, and a code: all that is told is told by both. -/
theorem both_wp {lo st v c : AV} {bl bs bv bc p q : Nat} {Lo St V C : List Int} (h : Bk H lo st bl bs Lo St) (hv : Is .i32 H bv v V) (hV : In32 V) (hVl : V.length ≤ 1000) (hc : Is .u8 H bc c C) (hC : In8 C) (hCl : C.length ≤ 1000)
    (hp : H.get p = some (.cells 65 [lo, st])) (hq : H.get q = some (.cells 67 [lo, st])) (hpn : p < H.next) (hqn : q < H.next) (K : AV → AH → Prop) (hK : ∀ H', Ext [] H H' → K (.bool true) H') :
    outP CC H (w_load (some 2) H (.ptr (some (p, 0)))) fun v21 H21 =>
    outP CC H21 (w_load (some 2) H21 (.ptr (some (p, 0)))) fun v22 H22 =>
    outP CC H22 (some (.enter 39 [v21, v])) fun v23 H23 =>
    ckP (reC true (w_load (some 2) H23 (.ptr (some (p, 0)))) v22) <|
    outP CC H23 (some (.enter 41 [v22, c])) fun v24 H24 =>
    outP CC H24 (w_conv .text H24 v23 none) fun v25 H25 =>
    outP CC H25 (w_load (some 2) H25 (.ptr (some (q, 0)))) fun v26 H26 =>
    outP CC H26 (some (.enter 40 [v26, v])) fun v27 H27 =>
    ckP (reC true (w_conv .text H27 v23 none) v25) <|
    outP CC H27 (w_conv .text H27 v27 none) fun v28 H28 =>
    outP CC H28 (w_str .eql H28 v25 v28) fun v29 H29 =>
    guardP (boolIs true v29) H29 (outP CC H29 (some (.val v24 H29))) fun v30 H30 =>
    guardP (boolIs true v29) H30 (outP CC H30 (w_load (some 2) H30 (.ptr (some (q, 0))))) fun v31 H31 =>
    guardP (boolIs true v29) H31 (outP CC H31 (some (.val c H31))) fun v32 H32 =>
    guardP (boolIs true v29) H32 (outP CC H32 (some (.enter 42 [v31, v32]))) fun v33 H33 =>
    guardP (boolIs true v29) H33 (outP CC H33 (some (.enter 19 [v30, v33]))) fun v34 H34 =>
    outP CC H34 (w_pick H34 v29 v34 (.bool false)) fun v35 H35 =>
    guardP (boolIs true v35) H35 (outP CC H35 (w_load (some 2) H35 (.ptr (some (p, 0))))) fun v36 H36 =>
    guardP (boolIs true v35) H36 (outP CC H36 (w_load (some 2) H36 (.ptr (some (q, 0))))) fun v37 H37 =>
    guardP (boolIs true v35) H37 (outP CC H37 (some (.enter 37 [v36]))) fun v38 H38 =>
    ckP (reC (boolIs true v35) (w_load (some 2) H38 (.ptr (some (q, 0)))) v37) <|
    guardP (boolIs true v35) H38 (outP CC H38 (some (.enter 38 [v37]))) fun v39 H39 =>
    guardP (boolIs true v35) H39 (outP CC H39 (w_int .eql H39 v38 v39)) fun v40 H40 =>
    outP CC H40 (w_pick H40 v35 v40 (.bool false)) fun v41 H41 =>
    K v41 H41 := by
  obtain ⟨_, _, _, f3⟩ := h.lo.facts
  obtain ⟨_, _, _, g3⟩ := h.st.facts
  have s1 := Sl.slk h.lo
  have s2 := Sl.slk h.st
  have ldp : ∀ G : AH, Ext [] H G → w_load (some 2) G (.ptr (some (p, 0))) = some (.val (.agg [lo, st]) G) := fun G e => by
    rw [w_load_n, e.get hpn (by simp) hp, ldN_two _ f3 g3, vO_some]
  have ldq : ∀ G : AH, Ext [] H G → w_load (some 2) G (.ptr (some (q, 0))) = some (.val (.agg [lo, st]) G) := fun G e => by
    rw [w_load_n, e.get hqn (by simp) hq, ldN_two _ f3 g3, vO_some]
  rw [ldp _ (Ext.refl _ _), outP_val, ldp _ (Ext.refl _ _), outP_val, outP_enter]
  refine qCode_wp h hv hV hVl _ fun G1 c1 B1 x1 hB1 o1 => ?_
  rw [ldp _ x1, reC_val, beq_two s1 s2, ckP_true, outP_enter]
  refine qBack_wp (h.mono0 x1) (Sl.mono hc x1 (by simp)) hC hCl _ fun G2 c2 B2 x2 hB2 o2 => ?_
  have x12 := x1.trans x2
  have n1 := x1.next
  have n2 := x2.next
  have t1 : ∀ G : AH, Ext [] G2 G → w_conv .text G c1 none = some (.val (.str (txt (codeL Lo St V))) G) := fun G e => conv_text (Sl.mono (Sl.mono o1.is x2 (by simp)) e (by simp))
  rw [t1 _ (Ext.refl _ _), outP_val, ldq _ x12, outP_val, outP_enter]
  refine rCode_wp (h.mono0 x12) (Sl.mono hv x12 (by simp)) hV hVl _ fun G3 c3 B3 x3 hB3 o3 => ?_
  have x13 := x12.trans x3
  have n3 := x3.next
  rw [t1 _ x3, reC_val, beq_str, ckP_true, conv_text o3.is, outP_val, w_str_eq, outP_val, decide_eq_true rfl, boolIs_bool, beq_tt]
  rw [guardP_true, outP_val, guardP_true, ldq _ x13, outP_val, guardP_true, outP_val, guardP_true, outP_enter]
  refine rBack_wp (h.mono0 x13) (Sl.mono hc x13 (by simp)) hC hCl _ fun G4 c4 B4 x4 hB4 o4 => ?_
  have x14 := x13.trans x4
  rw [guardP_true, outP_enter]
  have hbl : (backL Lo St C).length ≤ 1000000 := by
    have := h.lenL
    unfold backL; split
    · rw [List.length_map, List.length_range]; omega
    · simp
  refine vecEq_wp (Sl.mono (Sl.mono o2.is x3 (by simp)) x4 (by simp)) o4.is hbl _ ?_
  rw [decide_eq_true rfl, w_pick_b, outP_val, if_pos rfl, boolIs_bool, beq_tt]
  rw [guardP_true, ldp _ x14, outP_val, guardP_true, ldq _ x14, outP_val, guardP_true, outP_enter]
  refine qBound_wp (h.mono0 x14) _ fun G5 x5 => ?_
  have x15 := x14.trans x5
  rw [ldq _ x15, reC_val, beq_two s1 s2, ckP_true, guardP_true, outP_enter]
  refine rBound_wp (h.mono0 x15) _ fun G6 x6 => ?_
  rw [guardP_true, w_eql, outP_val, w_pick_b, outP_val, if_pos rfl, decide_eq_true rfl]
  exact hK _ (x15.trans x6)

theorem quantAny_wp {b1 b2 b3 b4 : Nat} {s1 s2 s3 s4 : AV} {Lo St V C : List Int} (h1 : Is .i32 H b1 s1 Lo) (h2 : Is .i32 H b2 s2 St) (h3 : Is .i32 H b3 s3 V) (h4 : Is .u8 H b4 s4 C) (i1 : In32 Lo) (i2 : In32 St) (i3 : In32 V) (i4 : In8 C)
    (hl : Laid H) (K : AV → AH → Prop) (hK : ∀ H', Ext [] H H' → K (.bool true) H') : CC.call 11 [s1, s2, s3, s4] H K := by
  refine m_fieldfarelaw7_QuantAny_ok _ _ _ _ _ _ ?_
  unfold m_fieldfarelaw7_QuantAny
  rw [outP_enter]
  refine begun_wp hl _ ?_
  rw [w_not, outP_val, Bool.not_true, condP_false]
  rw [h1.len i32_sl, outP_val, w_min2_int, outP_val, min9]
  obtain ⟨t1, e1, k1⟩ := h1.cut (min Lo.length 9) (Nat.min_le_left _ _)
  rw [e1, outP_val, h2.len i32_sl, outP_val, w_min2_int, outP_val, min9]
  obtain ⟨t2, e2, k2⟩ := h2.cut (min St.length 9) (Nat.min_le_left _ _)
  rw [e2, outP_val, h3.len vec_sl, outP_val, w_min2_int, outP_val, min9]
  obtain ⟨t3, e3, k3⟩ := h3.cut (min V.length 9) (Nat.min_le_left _ _)
  rw [e3, outP_val, h4.len u8_sl, outP_val, w_min2_int, outP_val, min9]
  obtain ⟨t4, e4, k4⟩ := h4.cut (min C.length 9) (Nat.min_le_left _ _)
  obtain ⟨f1, f2, _, f3⟩ := Sl.facts k1
  obtain ⟨g1, g2, _, g3⟩ := Sl.facts k2
  rw [e4, outP_val, book_build (Sl.slk k1) (Sl.slk k2), outP_val, rbook_build (Sl.slk k1) (Sl.slk k2), outP_val, w_alloc_none, outP_val, w_alloc_none, outP_val]
  rw [w_store_c, get_new_ne _ (by rw [next_new]; omega), get_new_same, stN_two _ _ _ _ _ _ f1 g1, outP_skip]
  rw [w_store_c, get_put_ne _ (by rw [next_new]; omega), get_new_same, stN_two _ _ _ _ _ _ f1 g1, outP_skip]
  have hE : Ext [] H ((((H.new (.cells 65 [.slice none 0 0 true, .slice none 0 0 true])).new (.cells 67 [.slice none 0 0 true, .slice none 0 0 true])).put H.next (some (.cells 65 [t1, t2]))).put (H.new (.cells 65 [.slice none 0 0 true, .slice none 0 0 true])).next (some (.cells 67 [t1, t2]))) :=
    ((((Ext.refl _ _).new _).new _).put (.inl (Nat.le_refl _)) _).put (.inl (by rw [next_new]; omega)) _
  have hp : ((((H.new (.cells 65 [.slice none 0 0 true, .slice none 0 0 true])).new (.cells 67 [.slice none 0 0 true, .slice none 0 0 true])).put H.next (some (.cells 65 [t1, t2]))).put (H.new (.cells 65 [.slice none 0 0 true, .slice none 0 0 true])).next (some (.cells 67 [t1, t2]))).get H.next = some (.cells 65 [t1, t2]) := by
    rw [get_put_ne _ (by rw [next_new]; omega), get_put_same]
  have hn : ((((H.new (.cells 65 [.slice none 0 0 true, .slice none 0 0 true])).new (.cells 67 [.slice none 0 0 true, .slice none 0 0 true])).put H.next (some (.cells 65 [t1, t2]))).put (H.new (.cells 65 [.slice none 0 0 true, .slice none 0 0 true])).next (some (.cells 67 [t1, t2]))).next = H.next + 2 := by
    rw [AH.next_put, AH.next_put, next_new, next_new]
  have hq := get_put_same (H := ((H.new (.cells 65 [.slice none 0 0 true, .slice none 0 0 true])).new (.cells 67 [.slice none 0 0 true, .slice none 0 0 true])).put H.next (some (.cells 65 [t1, t2]))) (H.new (.cells 65 [.slice none 0 0 true, .slice none 0 0 true])).next (some (.cells 67 [t1, t2]))
  rw [next_new] at *
  generalize (((H.new (.cells 65 [.slice none 0 0 true, .slice none 0 0 true])).new (.cells 67 [.slice none 0 0 true, .slice none 0 0 true])).put H.next (some (.cells 65 [t1, t2]))).put (H.next + 1) (some (.cells 67 [t1, t2])) = G at *
  have lt : ∀ L : List Int, (L.take (min L.length 9)).length ≤ 1000 := fun L => by rw [List.length_take]; omega
  have hb : Bk G t1 t2 b1 b2 (Lo.take (min Lo.length 9)) (St.take (min St.length 9)) := ⟨Sl.mono k1 hE (by simp), Sl.mono k2 hE (by simp), lt _, lt _, take_in i1 _, take_in i2 _⟩
  exact both_wp hb (Sl.mono k3 hE (by simp)) (take_in i3 _) (lt _) (Sl.mono k4 hE (by simp)) (take_in i4 _) (lt _) hp hq (by omega) (by omega) K fun G' x => hK _ (hE.trans x)
end
end Go.Ab
