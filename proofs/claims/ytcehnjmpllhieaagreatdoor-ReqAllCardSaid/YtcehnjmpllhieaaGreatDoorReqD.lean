/- Operations, written. -/
import Derived.Test.YtcehnjmpllhieaaGreatDoorReqC
namespace Go.Ab
noncomputable section
open Go.Proofs
set_option maxRecDepth 10000
variable {H H' : AH}

theorem encT_le (t : List UInt8) (h : t.length ≤ 1000) : (encT t).length ≤ 9 + t.length := by
  have := encZ_le (n := (t.length : Int)) ⟨by omega, by omega⟩
  unfold encT
  rw [List.length_append, unT_len]; omega
theorem encN_le {V : List Int} (h : ∀ x ∈ V, -2147483648 ≤ x ∧ x ≤ 2147483647) (hl : V.length ≤ 8) : (encN V).length ≤ 90 := by
  have h1 := encZ_le (n := (V.length : Int)) ⟨by omega, by omega⟩
  have h2 := encs_le h
  unfold encN
  rw [List.length_append]; omega
theorem fields_wp {H0 : AH} {wp b : Nat} {v : AV} {L : List Int} (o : OpV) (h : Wx [] H0 H wp L) (hL : L.length ≤ 1000) (hv : VecF H0 b v o.vec) (m : MayV o) (wf : WfV o) (K : AV → AH → Prop) (hK : ∀ H', Wx [] H0 H' wp (L ++ fieldsV o) → K (.tup []) H') :
    CC.call 44 [.ptr (some (wp, 0)), opA o v] H K := by
  refine m_req_fields_ok _ _ _ _ ?_
  unfold m_req_fields
  obtain ⟨f1, f2, f3⟩ := slk_facts hv.slk
  rw [op_box o f1, outP_val]
  have x1 : Ext [] H (H.new (.cells 26 (opC o v))) := (Ext.refl _ _).new _
  have g1 := get_new_same H (.cells 26 (opC o v))
  have nx : (H.new (.cells 26 (opC o v))).next = H.next + 1 := rfl
  have h1 := h.mono x1
  have hgw : (H.new (.cells 26 (opC o v))).get wp = H.get wp := get_new_ne _ (by have := h.lt; omega)
  generalize H.new (.cells 26 (opC o v)) = G at *
  obtain ⟨B, hB, hB2, w⟩ := h1.now
  have hB0 : H0.next ≤ B := by simpa using hB
  have hw0 : H0.next ≤ wp := by simpa using h.lo
  have hne : H.next ∉ [wp, B] := by
    have := h.lt
    simp only [List.mem_cons, List.not_mem_nil, or_false]
    rintro (q | rfl)
    · omega
    · rcases hB2 with q | ⟨o', n, c, x, q⟩
      · omega
      · rw [hgw] at q; exact h.notNew q
  have g : ∀ {G' : AH}, Ext [wp, B] G G' → G'.get H.next = some (.cells 26 (opC o v)) := fun e => e.get (by omega) hne g1
  have hvG : VecF G b v o.vec := ⟨Sl.mono hv.is h1.ext (by simp), hv.len⟩
  have hb : b ∈ [wp, B] → o.vec = [] := fun q => by
    rcases Sl.low hv.is with r | r
    · simp only [List.mem_cons, List.not_mem_nil, or_false] at q; omega
    · exact List.map_eq_nil_iff.1 r
  have fin : ∀ {G'}, Wx [wp, B] G G' wp (L ++ fieldsV o) → K (.tup []) G' := fun w' => hK _ (h1.back hB w')
  obtain ⟨_, _, _, m1, _, m2, m3, m4, m5, m6, m7, m8⟩ := m
  have t1 := encZ_le (i64_M m4)
  have t2 := encN_le wf.vec m2
  have t3 := encT_le o.pay (by omega)
  have wd := wf.draw
  have id : I64 o.draw := ⟨by omega, by omega⟩
  clear hK h1 hB2
  unfold m_req_fieldst
  repeat (first | rw [outP_val] | rw [g w.ext] | rw [op_f0] | rw [w_fieldAddr_ptr] | rw [Nat.zero_add] | rw [w_load_c] | rw [vO_some])
  unfold m_req_fieldsttb
  unfold fieldsV at fin
  rw [w_eql, outP_val]
  unfold m_req_fieldsttbt
  by_cases c1 : o.kind = 1
  case pos =>
    rw [if_pos c1] at fin
    rw [decide_eq_true c1, condP_true]
    unfold m_req_fieldsttbty
    repeat (first | rw [outP_val] | rw [g w.ext] | rw [op_f4] | rw [op_f5] | rw [op_f6] | rw [w_fieldAddr_ptr] | rw [Nat.zero_add] | rw [w_load_c] | rw [vO_some])
    refine wThree_wp w (by omega) (i64_M m5) (i64_M m6) (i64_M m7) _ fun G' w' => ?_
    exact fin w'
  rw [if_neg c1] at fin
  rw [decide_eq_false c1, condP_false]
  unfold m_req_fieldsttbtn
  rw [w_eql, outP_val]
  unfold m_req_fieldsttbtnt
  by_cases c2 : o.kind = 6
  case pos =>
    rw [if_pos c2] at fin
    rw [decide_eq_true c2, condP_true]
    unfold m_req_fieldsttbtnty
    repeat (first | rw [outP_val] | rw [g w.ext] | rw [op_f6] | rw [w_fieldAddr_ptr] | rw [Nat.zero_add] | rw [w_load_c] | rw [vO_some])
    refine wOne_wp w (by omega) (i64_M m7) _ fun G' w' => ?_
    exact fin w'
  rw [if_neg c2] at fin
  rw [decide_eq_false c2, condP_false]
  unfold m_req_fieldsttbtntn
  rw [w_eql, outP_val]
  by_cases c3 : o.kind = 4 ∨ o.kind = 12
  case pos =>
    rw [if_pos c3] at fin
    have go : m_req_fieldsttbtntnt K (.ptr (some (wp, 0))) (.ptr (some (H.next, 0))) (.int .i64 o.kind) (.bool true) G := by
      unfold m_req_fieldsttbtntnt
      repeat (first | rw [outP_val] | rw [condP_true] | rw [g w.ext] | rw [op_f3] | rw [w_fieldAddr_ptr] | rw [Nat.zero_add] | rw [w_load_c] | rw [vO_some])
      refine wOne_wp w (by omega) (i64_M m4) _ fun G' w' => ?_
      exact fin w'
    by_cases c4 : o.kind = 4
    · rw [decide_eq_true c4, condP_true]; exact go
    · rw [decide_eq_false c4, condP_false, w_eql, outP_val, decide_eq_true (by omega)]; exact go
  rw [if_neg c3] at fin
  rw [decide_eq_false (by omega), condP_false, w_eql, outP_val, decide_eq_false (by omega)]
  unfold m_req_fieldsttbtntnt
  rw [condP_false, w_eql, outP_val]
  by_cases c5 : o.kind = 3
  case pos =>
    rw [if_pos c5] at fin
    rw [decide_eq_true c5, condP_true]
    repeat (first | rw [outP_val] | rw [g w.ext] | rw [op_f3] | rw [w_fieldAddr_ptr] | rw [Nat.zero_add] | rw [w_load_c] | rw [vO_some])
    refine wOne_wp w (by omega) (i64_M m4) _ fun G1 w => ?_
    repeat (first | rw [outP_val] | rw [g w.ext] | rw [op_f7 _ _ f2] | rw [w_fieldAddr_ptr] | rw [Nat.zero_add] | rw [w_load_c] | rw [vO_some])
    rw [outP_enter]
    refine put_wp w (by simp only [List.length_append]; omega) hvG.is hb wf.vec (by omega) _ fun G2 w => ?_
    repeat (first | rw [outP_val] | rw [g w.ext] | rw [op_f8] | rw [w_fieldAddr_ptr] | rw [Nat.zero_add] | rw [w_load_c] | rw [vO_some])
    rw [outP_enter]
    refine wText_wp w (by show (_ ++ encN o.vec).length ≤ 5000; simp only [List.length_append]; omega) o.pay (by omega) _ fun G3 w => ?_
    repeat (first | rw [outP_val] | rw [g w.ext] | rw [op_f10] | rw [w_fieldAddr_ptr] | rw [Nat.zero_add] | rw [w_load_c] | rw [vO_some] | rw [w_cint])
    rw [wrap64_in (by omega) (by omega)]
    refine wOne_wp w (by show ((_ ++ encN o.vec) ++ _).length ≤ 10000; simp only [List.length_append]; omega) id _ fun G4 w => ?_
    refine fin ?_
    simp only [List.append_assoc] at w ⊢
    exact w
  rw [if_neg c5] at fin
  rw [decide_eq_false c5, condP_false, w_eql, outP_val]
  by_cases c6 : o.kind = 13
  case pos =>
    rw [if_pos c6] at fin
    rw [decide_eq_true c6, condP_true]
    repeat (first | rw [outP_val] | rw [g w.ext] | rw [op_f7 _ _ f2] | rw [w_fieldAddr_ptr] | rw [Nat.zero_add] | rw [w_load_c] | rw [vO_some])
    rw [outP_enter]
    refine put_wp w (by omega) hvG.is hb wf.vec (by omega) _ fun G2 w => ?_
    repeat (first | rw [outP_val] | rw [g w.ext] | rw [op_f9] | rw [w_fieldAddr_ptr] | rw [Nat.zero_add] | rw [w_load_c] | rw [vO_some])
    refine wOne_wp w (by show (_ ++ encN o.vec).length ≤ 10000; simp only [List.length_append]; omega) (i64_M m8) _ fun G4 w => ?_
    refine fin ?_
    simp only [List.append_assoc] at w ⊢
    exact w
  rw [if_neg c6, List.append_nil] at fin
  rw [decide_eq_false c6, condP_false]
  exact fin w
theorem fieldsV_le {o : OpV} (m : MayV o) (wf : WfV o) : (fieldsV o).length ≤ 200 := by
  obtain ⟨_, _, _, m1, _, m2, m3, m4, m5, m6, m7, m8⟩ := m
  have t1 := encZ_le (i64_M m4)
  have t2 := encN_le wf.vec m2
  have t3 := encT_le o.pay (by omega)
  have wd := wf.draw
  have t4 := encZ_le (n := o.draw) ⟨by omega, by omega⟩
  have t5 := encZ_le (i64_M m5)
  have t6 := encZ_le (i64_M m6)
  have t7 := encZ_le (i64_M m7)
  have t8 := encZ_le (i64_M m8)
  unfold fieldsV
  split
  · simp only [List.length_append]; omega
  · split
    · omega
    · split
      · omega
      · split
        · simp only [List.length_append]; omega
        · split
          · simp only [List.length_append]; omega
          · simp
theorem restV_le {o : OpV} (m : MayV o) (wf : WfV o) : (restV o).length ≤ 300 := by
  have t0 := fieldsV_le m wf
  obtain ⟨_, _, _, m1, mn, m2, m3, m4, m5, m6, m7, m8⟩ := m
  have t3 := encT_le o.col (by omega)
  have t2 := encT_le o.name (by omega)
  have wd := wf.draw
  have t4 := encZ_le (n := o.draw) ⟨by omega, by omega⟩
  unfold restV
  split
  · simp only [List.length_append]; omega
  · split
    · omega
    · split
      · simp
      · simp only [List.length_append]; omega
theorem opText_le {o : OpV} (m : MayV o) (wf : WfV o) : (opText o).length ≤ 309 := by
  have t0 := restV_le m wf
  have t1 := encZ_le wf.k0
  unfold opText
  rw [List.length_append]; omega
theorem reqPut_wp {b : Nat} {v : AV} (o : OpV) (h : VecF H b v o.vec) (wf : WfV o) (K : AV → AH → Prop)
    (h1 : ¬ MayV o → ∀ H' e, Ext [] H H' → ErrX H' e 1 → K (.tup [.slice none 0 0 true, e]) H') (h2 : MayV o → ∀ H' s B, Ext [] H H' → H.next ≤ B → Os 5 .u8 H' B s (opText o) → K (.tup [s, .nilIface]) H') : CC.call 8 [opA o v] H K := by
  refine m_req_Put_ok _ _ _ ?_
  unfold m_req_Put
  obtain ⟨f1, f2, f3⟩ := slk_facts h.slk
  rw [op_box o f1, outP_val]
  have x1 : Ext [] H (H.new (.cells 26 (opC o v))) := (Ext.refl _ _).new _
  have g1 := get_new_same H (.cells 26 (opC o v))
  have nx : H.next < (H.new (.cells 26 (opC o v))).next := by rw [next_new]; omega
  generalize H.new (.cells 26 (opC o v)) = G at *
  have l11 := ld11 26 (op_len o v) (op_known o f3)
  unfold m_req_Putt
  rw [w_load_n, g1, l11, vO_some, outP_val, outP_enter]
  refine may_wp o (h.mono x1) _ fun G2 r x2 hr => ?_
  rw [w_not, outP_val]
  cases r with
  | false =>
    rw [Bool.not_false, condP_true, outP_enter]
    refine at_wp 1 (by decide) _ fun G3 e x3 he => ?_
    exact h1 (fun q => by have := hr.2 q; cases this) G3 e ((x1.trans x2).trans x3) he
  | true =>
    have m : MayV o := hr.1 rfl
    rw [Bool.not_true, condP_false]
    have h2 := h2 m
    clear h1 hr
    unfold m_req_Puttt
    rw [w_alloc_none, outP_val]
    have w : Wx [] G2 (G2.new (.cells 83 [.slice none 0 0 true])) G2.next [] := ⟨(Ext.refl _ _).new _, .inl (Nat.le_refl _), by rw [next_new]; omega, G2.next + 1, _, get_new_same _ _, os_nil _ _ _, .inl (by omega), by omega⟩
    generalize G2.new (.cells 83 [.slice none 0 0 true]) = G3 at *
    have g2 : G2.get H.next = _ := x2.get nx (by simp) g1
    have nx2 : H.next < G2.next := Nat.lt_of_lt_of_le nx x2.next
    have x12 := x1.trans x2
    have hv : VecF G2 b v o.vec := h.mono x12
    have g : ∀ {G' : AH}, Ext [] G2 G' → G'.get H.next = some (.cells 26 (opC o v)) := fun e => e.get nx2 (by simp) g2
    have tf := fieldsV_le m wf
    have m' := m
    obtain ⟨k1, k15, _, m1, mn, m2, m3, m4, m5, m6, m7, m8⟩ := m'
    have tk := encZ_le wf.k0
    have t3 := encT_le o.col (by omega)
    have t2 := encT_le o.name (by omega)
    have wd := wf.draw
    have idw : I64 o.draw := ⟨by omega, by omega⟩
    unfold m_req_Putttt
    repeat (first | rw [outP_val] | rw [g w.ext] | rw [op_f0] | rw [w_fieldAddr_ptr] | rw [Nat.zero_add] | rw [w_load_c] | rw [vO_some])
    refine wOne_wp w (by simp) wf.k0 _ fun G4 w => ?_
    rw [List.nil_append] at w
    have fin : ∀ {G'}, Wx [] G2 G' G2.next (opText o) → m_req_Putttttt K (.ptr (some (G2.next, 0))) G' := fun w' => by
      have := opText_le m wf
      unfold m_req_Putttttt
      rw [outP_enter]
      refine wBytes_wp w' (by omega) _ fun G5 s B x5 hB os => ?_
      have := w'.ext.next
      have := x12.next
      exact h2 _ _ B ((x12.trans w'.ext).trans x5) (by omega) os
    unfold m_req_Puttttth
    repeat (first | rw [outP_val] | rw [g w.ext] | rw [op_f0] | rw [w_fieldAddr_ptr] | rw [Nat.zero_add] | rw [w_load_c] | rw [vO_some])
    unfold m_req_Puttttthtb
    rw [w_eql, outP_val]
    unfold m_req_Puttttthtbt
    unfold opText restV at fin
    by_cases c1 : o.kind = 5
    case pos =>
      rw [if_pos c1] at fin
      rw [decide_eq_true c1, condP_true]
      unfold m_req_Puttttthtbty
      repeat (first | rw [outP_val] | rw [g w.ext] | rw [op_f2] | rw [w_fieldAddr_ptr] | rw [Nat.zero_add] | rw [w_load_c] | rw [vO_some])
      rw [outP_enter]
      refine wText_wp w (by omega) o.name (by omega) _ fun G5 w => ?_
      repeat (first | rw [outP_val] | rw [g w.ext] | rw [op_f1] | rw [w_fieldAddr_ptr] | rw [Nat.zero_add] | rw [w_load_c] | rw [vO_some])
      rw [outP_enter]
      refine wText_wp w (by rw [List.length_append]; omega) o.col (by omega) _ fun G6 w => ?_
      rw [List.append_assoc] at w
      exact fin w
    rw [if_neg c1] at fin
    rw [decide_eq_false c1, condP_false]
    unfold m_req_Puttttthtbtn
    rw [w_eql, outP_val]
    unfold m_req_Puttttthtbtnt
    by_cases c2 : o.kind = 10
    case pos =>
      rw [if_pos c2] at fin
      rw [decide_eq_true c2, condP_true]
      unfold m_req_Puttttthtbtnty
      repeat (first | rw [outP_val] | rw [g w.ext] | rw [op_f10] | rw [w_fieldAddr_ptr] | rw [Nat.zero_add] | rw [w_load_c] | rw [vO_some] | rw [w_cint])
      rw [wrap64_in (by omega) (by omega)]
      refine wOne_wp w (by omega) idw _ fun G5 w => ?_
      exact fin w
    rw [if_neg c2] at fin
    rw [decide_eq_false c2, condP_false]
    have go : ¬ (o.kind = 7 ∨ o.kind = 8 ∨ o.kind = 9 ∨ o.kind = 11 ∨ o.kind = 14) → m_req_Puttttthtbtntnt K (.ptr (some (H.next, 0))) (.ptr (some (G2.next, 0))) (.bool true) G4 := fun q => by
      rw [if_neg q] at fin
      unfold m_req_Puttttthtbtntnt
      repeat (first | rw [outP_val] | rw [condP_true] | rw [g w.ext] | rw [op_f1] | rw [w_fieldAddr_ptr] | rw [Nat.zero_add] | rw [w_load_c] | rw [vO_some])
      rw [outP_enter]
      refine wText_wp w (by omega) o.col (by omega) _ fun G5 w => ?_
      rw [w_load_n, g w.ext, l11, vO_some, outP_val, outP_enter]
      refine fields_wp o w (by rw [List.length_append]; omega) hv m wf _ fun G6 w => ?_
      rw [List.append_assoc] at w
      exact fin w
    unfold m_req_Puttttthtbtntn
    by_cases c3 : o.kind = 7 ∨ o.kind = 8 ∨ o.kind = 9 ∨ o.kind = 11 ∨ o.kind = 14
    case pos =>
      rw [if_pos c3, List.append_nil] at fin
      simp only [w_eql, outP_val, decide_eq_false (show ¬ o.kind = 1 by omega), decide_eq_false (show ¬ o.kind = 2 by omega), decide_eq_false (show ¬ o.kind = 15 by omega), decide_eq_false (show ¬ o.kind = 3 by omega), decide_eq_false (show ¬ o.kind = 4 by omega), decide_eq_false (show ¬ o.kind = 12 by omega), decide_eq_false (show ¬ o.kind = 6 by omega), decide_eq_false (show ¬ o.kind = 13 by omega), condP_false]
      unfold m_req_Puttttthtbtntnt
      rw [condP_false]
      exact fin w
    have go := go c3
    have c4 : o.kind = 1 ∨ o.kind = 2 ∨ o.kind = 15 ∨ o.kind = 3 ∨ o.kind = 4 ∨ o.kind = 12 ∨ o.kind = 6 ∨ o.kind = 13 := by omega
    rcases c4 with c | c | c | c | c | c | c | c <;> simp only [w_eql, outP_val, c, Int.reduceEq, decide_true, decide_false, condP_true, condP_false] <;> exact go
end
end Go.Ab
