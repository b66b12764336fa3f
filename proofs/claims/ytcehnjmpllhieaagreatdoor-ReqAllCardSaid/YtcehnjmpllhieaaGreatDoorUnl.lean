/- fieldfarelaw23.ReqUnlike: what it does, at any input. -/
import Derived.Test.YtcehnjmpllhieaaGreatDoorReqD
import Derived.Test.YtcehnjmpllhieaaGreatDoorReqI
import Derived.Test.YtcehnjmpllhieaaGreatDoorR4
namespace Go.Ab
noncomputable section
open Go.Proofs
set_option maxRecDepth 10000
variable {H H' : AH}

theorem by_app {A B : List Int} (ha : By A) (hb : By B) : By (A ++ B) := fun x hx => (List.mem_append.1 hx).elim (ha x) (hb x)
theorem encT_by {s : List UInt8} (h : s.length ≤ 1000) : By (encT s) := by_app (enc_by ⟨by omega, by omega⟩) (unT_by s)
theorem encN_by {V : List Int} (h : ∀ x ∈ V, -2147483648 ≤ x ∧ x ≤ 2147483647) (hl : V.length ≤ 8) : By (encN V) := by_app (enc_by ⟨by omega, by omega⟩) fun x hx => by
  obtain ⟨z, hz, hx⟩ := List.mem_flatMap.1 hx
  have := h z hz
  exact enc_by ⟨by omega, by omega⟩ x hx
theorem opText_by {o : OpV} (m : MayV o) (w : WfV o) : By (opText o) := by
  obtain ⟨_, _, _, m1, mn, m2, m3, m4, m5, m6, m7, m8⟩ := m
  have wd := w.draw
  have b1 := enc_by (i64_M m4)
  have b2 := enc_by (i64_M m5)
  have b3 := enc_by (i64_M m6)
  have b4 := enc_by (i64_M m7)
  have b5 := enc_by (i64_M m8)
  have b6 : By (encZ o.draw) := enc_by ⟨by omega, by omega⟩
  have b7 : By (encT o.col) := encT_by (by omega)
  have b8 : By (encT o.name) := encT_by (by omega)
  have b9 : By (encT o.pay) := encT_by (by omega)
  have bv := encN_by w.vec m2
  have nil : By ([] : List Int) := fun x hx => (List.not_mem_nil hx).elim
  have bf : By (fieldsV o) := by
    unfold fieldsV
    split
    · exact by_app (by_app b2 b3) b4
    · split
      · exact b4
      · split
        · exact b1
        · split
          · exact by_app (by_app (by_app b1 bv) b9) b6
          · split
            · exact by_app bv b5
            · exact nil
  refine by_app (enc_by w.k0) ?_
  unfold restV
  split
  · exact by_app b8 b7
  · split
    · exact b6
    · split
      · exact nil
      · exact by_app b7 bf
theorem txt_inj {A B : List Int} (ha : By A) (hb : By B) (h : txt A = txt B) : A = B := by
  rw [← unT_toT ha, ← unT_toT hb]
  exact congrArg unT h
theorem ext0 (a b : AV) : w_extract 0 H (.tup [a, b]) = some (.val a H) := rfl
theorem ext1 (a b : AV) : w_extract 1 H (.tup [a, b]) = some (.val b H) := rfl
theorem err_neq {e : AV} {n : Int} (h : ErrX H' e n) : w_eq PP .neq 30 false true H e .nilIface = some (.val (.bool true) H) := by
  obtain ⟨b, w, rfl, _⟩ := h; kernel_rfl
theorem err_eql {e : AV} {n : Int} (h : ErrX H' e n) : w_eq PP .eql 30 false true H e .nilIface = some (.val (.bool false) H) := by
  obtain ⟨b, w, rfl, _⟩ := h; kernel_rfl
theorem nil_neq : w_eq PP .neq 30 false true H .nilIface .nilIface = some (.val (.bool false) H) := by kernel_rfl
theorem nil_eql : w_eq PP .eql 30 false true H .nilIface .nilIface = some (.val (.bool true) H) := by kernel_rfl
theorem bool_eql (a b : Bool) : w_eq PP .eql 4 false false H (.bool a) (.bool b) = some (.val (.bool (a == b)) H) := by cases a <;> cases b <;> kernel_rfl
theorem bool_neq (a b : Bool) : w_eq PP .neq 4 false false H (.bool a) (.bool b) = some (.val (.bool (!(a == b))) H) := by cases a <;> cases b <;> kernel_rfl
theorem reqUnlike_wp {b b' : Nat} {v v' : AV} (o o' : OpV) (h : VecF H b v o.vec) (wf : WfV o) (h' : VecF H b' v' o'.vec) (wf' : WfV o') (hl : Laid2 H) (hlt : 1 < H.next) (K : AV → AH → Prop) (hK : ∀ H', Ext [] H H' → K (.bool true) H') :
    C25.call 4 [opA o v, opA o' v'] H K := by
  refine m_fieldfarelaw23_ReqUnlike_ok _ _ _ _ ?_
  unfold m_fieldfarelaw23_ReqUnlike
  obtain ⟨f1, f2, f3⟩ := slk_facts h.slk
  obtain ⟨f1', f2', f3'⟩ := slk_facts h'.slk
  rw [op_box o f1, outP_val, op_box o' f1', outP_val]
  have x1 : Ext [] H ((H.new (.cells 26 (opC o v))).new (.cells 26 (opC o' v'))) := ((Ext.refl _ _).new _).new _
  have g1 : ((H.new (.cells 26 (opC o v))).new (.cells 26 (opC o' v'))).get H.next = some (.cells 26 (opC o v)) := by
    rw [get_new_ne _ (by rw [next_new]; omega), get_new_same]
  have g2 := get_new_same (H.new (.cells 26 (opC o v))) (.cells 26 (opC o' v'))
  have nx : H.next + 2 = ((H.new (.cells 26 (opC o v))).new (.cells 26 (opC o' v'))).next := rfl
  rw [show (H.new (.cells 26 (opC o v))).next = H.next + 1 from rfl] at g2 ⊢
  generalize (H.new (.cells 26 (opC o v))).new (.cells 26 (opC o' v')) = G at *
  have l11 := ld11 26 (op_len o v) (op_known o f3)
  have l11' := ld11 26 (op_len o' v') (op_known o' f3')
  have hl' : Laid2 G := ⟨by rw [x1.same 0 (by omega) (by simp)]; exact hl.h0, by rw [x1.same 1 hlt (by simp)]; exact hl.h1⟩
  rw [outP_enter]
  refine begun25_wp hl' _ ?_
  rw [w_not, outP_val, Bool.not_true, condP_false, w_load_n, g1, l11, vO_some, outP_val, outP_enter]
  have gA : ∀ {G' : AH}, Ext [] G G' → G'.get H.next = some (.cells 26 (opC o v)) := fun e => e.get (by omega) (by simp) g1
  have gB : ∀ {G' : AH}, Ext [] G G' → G'.get (H.next + 1) = some (.cells 26 (opC o' v')) := fun e => e.get (by omega) (by simp) g2
  -- an error: both are asked
  have tail : ∀ (G' : AH) (e e' : Bool) (a a' : AV) (hx : Ext [] G G'), (e = true ↔ ¬ MayV o) → (e' = true ↔ ¬ MayV o') → (∀ G : AH, w_eq PP .neq 30 false true G a .nilIface = some (.val (.bool e) G)) → (∀ G : AH, w_eq PP .neq 30 false true G a' .nilIface = some (.val (.bool e') G)) →
      (outP C25 G' (w_eq PP .neq 30 false true G' a .nilIface) fun v17 H17 =>
      outP C25 H17 (w_load (some 11) H17 (.ptr (some (H.next, 0)))) fun v18 H18 =>
      outP C25 H18 (some (.enter 9 [v18])) fun v19 H19 =>
      outP C25 H19 (w_un .not H19 v19) fun v20 H20 =>
      outP C25 H20 (w_eq PP .eql 4 false false H20 v17 v20) fun v21 H21 =>
      guardP (boolIs true v21) H21 (outP C25 H21 (some (.val a' H21))) fun v22 H22 =>
      guardP (boolIs true v21) H22 (outP C25 H22 (w_eq PP .neq 30 false true H22 v22 .nilIface)) fun v23 H23 =>
      guardP (boolIs true v21) H23 (outP C25 H23 (w_load (some 11) H23 (.ptr (some (H.next + 1, 0))))) fun v24 H24 =>
      guardP (boolIs true v21) H24 (outP C25 H24 (some (.enter 9 [v24]))) fun v25 H25 =>
      guardP (boolIs true v21) H25 (outP C25 H25 (w_un .not H25 v25)) fun v26 H26 =>
      guardP (boolIs true v21) H26 (outP C25 H26 (w_eq PP .eql 4 false false H26 v23 v26)) fun v27 H27 =>
      outP C25 H27 (w_pick H27 v21 v27 (.bool false)) fun v28 H28 =>
      K v28 H28) := by
    intro G' e e' a a' hx he he' ha ha'
    rw [ha, outP_val, w_load_n, gA hx, l11, vO_some, outP_val, outP_enter]
    refine via_wp (by kernel_rfl) ?_
    refine mayOp_wp o (h.mono (x1.trans hx)) _ fun G2 r x2 hr => ?_
    have e1 : (e == !r) = true := by
      by_cases q : MayV o
      · have r1 := hr.2 q
        have e1 : e = false := Bool.eq_false_iff.2 fun w => he.1 w q
        rw [r1, e1]; rfl
      · have r1 : r = false := Bool.eq_false_iff.2 fun w => q (hr.1 w)
        rw [r1, he.2 q]; rfl
    rw [w_not, outP_val, bool_eql, outP_val, e1]
    have gB2 := gB (hx.trans x2)
    repeat (first | rw [outP_val] | rw [guardP_true] | rw [ha'] | rw [gB2] | rw [l11'] | rw [boolIs_bool] | rw [beq_tt] | rw [w_load_n] | rw [vO_some])
    rw [outP_enter]
    refine via_wp (by kernel_rfl) ?_
    refine mayOp_wp o' (h'.mono ((x1.trans hx).trans x2)) _ fun G3 r' x3 hr' => ?_
    have e2 : (e' == !r') = true := by
      by_cases q : MayV o'
      · have r1 := hr'.2 q
        have e1 : e' = false := Bool.eq_false_iff.2 fun w => he'.1 w q
        rw [r1, e1]; rfl
      · have r1 : r' = false := Bool.eq_false_iff.2 fun w => q (hr'.1 w)
        rw [r1, he'.2 q]; rfl
    repeat (first | rw [outP_val] | rw [guardP_true] | rw [bool_eql] | rw [e2] | rw [w_pick_b] | rw [if_pos rfl] | rw [w_not])
    exact hK _ (((x1.trans hx).trans x2).trans x3)
  refine via_wp (by kernel_rfl) ?_
  refine reqPut_wp o (h.mono x1) wf _ (fun nm G2 e x2 he => ?_) fun m G2 s B x2 hB os => ?_
  · rw [ext0, outP_val, ext1, outP_val, w_load_n, gB x2, l11', vO_some, outP_val, outP_enter]
    refine via_wp (by kernel_rfl) ?_
    refine reqPut_wp o' (h'.mono (x1.trans x2)) wf' _ (fun nm' G3 e' x3 he' => ?_) fun m' G3 s' B' x3 hB' os' => ?_
    · repeat (first | rw [outP_val] | rw [guardP_false] | rw [condP_true] | rw [ext0] | rw [ext1] | rw [err_neq he] | rw [boolIs_bool] | rw [beq_ff] | rw [Bool.not_true] | rw [w_pick_b] | rw [if_pos rfl])
      have t := tail G3 true true e e' (x2.trans x3) ⟨fun _ => nm, fun _ => rfl⟩ ⟨fun _ => nm', fun _ => rfl⟩ (fun _ => err_neq he) (fun _ => err_neq he')
      rw [err_neq he, outP_val] at t
      exact t
    · repeat (first | rw [outP_val] | rw [guardP_false] | rw [condP_true] | rw [ext0] | rw [ext1] | rw [err_neq he] | rw [boolIs_bool] | rw [beq_ff] | rw [Bool.not_true] | rw [w_pick_b] | rw [if_pos rfl])
      have t := tail G3 true false e .nilIface (x2.trans x3) ⟨fun _ => nm, fun _ => rfl⟩ ⟨fun q => (by cases q), fun q => absurd m' q⟩ (fun _ => err_neq he) (fun _ => nil_neq)
      rw [err_neq he, outP_val] at t
      exact t
  · rw [ext0, outP_val, ext1, outP_val, w_load_n, gB x2, l11', vO_some, outP_val, outP_enter]
    refine via_wp (by kernel_rfl) ?_
    refine reqPut_wp o' (h'.mono (x1.trans x2)) wf' _ (fun nm' G3 e' x3 he' => ?_) fun m' G3 s' B' x3 hB' os' => ?_
    · repeat (first | rw [outP_val] | rw [guardP_true] | rw [condP_true] | rw [ext0] | rw [ext1] | rw [nil_neq] | rw [err_neq he'] | rw [boolIs_bool] | rw [beq_ff] | rw [Bool.not_false] | rw [w_pick_b] | rw [if_neg Bool.false_ne_true])
      have t := tail G3 false true .nilIface e' (x2.trans x3) ⟨fun q => (by cases q), fun q => absurd m q⟩ ⟨fun _ => nm', fun _ => rfl⟩ (fun _ => nil_neq) (fun _ => err_neq he')
      rw [nil_neq, outP_val] at t
      exact t
    · repeat (first | rw [outP_val] | rw [guardP_true] | rw [ext0] | rw [ext1] | rw [nil_neq] | rw [condP_false] | rw [boolIs_bool] | rw [beq_ff] | rw [Bool.not_false] | rw [w_pick_b] | rw [if_neg Bool.false_ne_true])
      have x23 := x2.trans x3
      have is1 : Is .u8 G3 B s (opText o) := Sl.mono os.is x3 (by simp)
      have is2 : Is .u8 G3 B' s' (opText o') := os'.is
      rw [w_load_n, gA x23, l11, vO_some, outP_val, w_load_n, gB x23, l11', vO_some, outP_val, conv_text is1, outP_val, conv_text is2, outP_val, w_str_eq, outP_val, outP_enter]
      refine via_wp (by kernel_rfl) ?_
      refine sameOp_wp o o' (h.mono (x1.trans x23)) (h'.mono (x1.trans x23)) _ fun G4 x4 => ?_
      rw [conv_text (Sl.mono is1 x4 (by simp) : Is .u8 G4 B s (opText o)), conv_text (Sl.mono is2 x4 (by simp) : Is .u8 G4 B' s' (opText o')), reC_val, beq_str, ckP_true, reC_val, beq_str, ckP_true, bool_eql, outP_val]
      have e : (eqV o o' == decide (txt (opText o) = txt (opText o'))) = true := by
        by_cases q : o = o'
        · subst q
          rw [(eqV_iff o o).2 rfl, decide_eq_true rfl]; rfl
        · have q1 : eqV o o' = false := Bool.eq_false_iff.2 fun w => q ((eqV_iff _ _).1 w)
          have q2 : ¬ txt (opText o) = txt (opText o') := fun w => q (text_inj m wf m' wf' (txt_inj (opText_by m wf) (opText_by m' wf') w))
          rw [q1, decide_eq_false q2]; rfl
      rw [e]
      exact hK _ ((x1.trans x23).trans x4)
end
end Go.Ab
