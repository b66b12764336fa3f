/- The document's way: alike, those that may be. -/
import Derived.Test.YtcehnjmpllhieaaGreatDoorReqC
import Derived.Test.YtcehnjmpllhieaaGreatDoorVput
import Derived.Test.YtcehnjmpllhieaaGreatDoorMC
namespace Go.Ab
noncomputable section
open Go.Proofs
set_option maxRecDepth 10000
variable {H H' : AH}

theorem sameOp_wp {b b' : Nat} {v v' : AV} (o o' : OpV) (h : VecF H b v o.vec) (h' : VecF H b' v' o'.vec) (K : AV → AH → Prop) (hK : ∀ H', Ext [] H H' → K (.bool (eqV o o')) H') : CC.call 14 [opA o v, opA o' v'] H K := by
  refine m_fieldfarelaw23_sameOp_ok _ _ _ _ ?_
  unfold m_fieldfarelaw23_sameOp
  obtain ⟨f1, f2, f3⟩ := slk_facts h.slk
  obtain ⟨f1', f2', f3'⟩ := slk_facts h'.slk
  rw [op_box o f1, outP_val, op_box o' f1', outP_val]
  have x1 : Ext [] H ((H.new (.cells 26 (opC o v))).new (.cells 26 (opC o' v'))) := ((Ext.refl _ _).new _).new _
  have g1 : ((H.new (.cells 26 (opC o v))).new (.cells 26 (opC o' v'))).get H.next = some (.cells 26 (opC o v)) := by
    rw [get_new_ne _ (by rw [next_new]; omega), get_new_same]
  have g2 := get_new_same (H.new (.cells 26 (opC o v))) (.cells 26 (opC o' v'))
  rw [show (H.new (.cells 26 (opC o v))).next = H.next + 1 from rfl] at g2 ⊢
  generalize (H.new (.cells 26 (opC o v))).new (.cells 26 (opC o' v')) = G at *
  have fin : ∀ b, b = eqV o o' → K (.bool b) G := fun b hb => by rw [hb]; exact hK _ x1
  repeat (first | rw [outP_val] | rw [g1] | rw [g2] | rw [op_f7 _ _ f2] | rw [op_f7 _ _ f2'] | rw [w_fieldAddr_ptr] | rw [Nat.zero_add] | rw [w_load_c] | rw [vO_some])
  rw [outP_enter]
  refine rEq_wp (h.mono x1).is (h'.mono x1).is h.len _ ?_
  by_cases cv : o.vec = o'.vec
  case neg =>
    rw [decide_eq_false cv]
    repeat (first | rw [outP_val] | rw [condP_true] | rw [Bool.not_false] | rw [w_not])
    exact fin _ (by simp [eqV, cv])
  rw [decide_eq_true cv]
  repeat (first | rw [outP_val] | rw [g1] | rw [g2] | rw [op_f0] | rw [condP_false] | rw [boolIs_bool] | rw [beq_tt] | rw [Bool.not_true] | rw [w_fieldAddr_ptr] | rw [Nat.zero_add] | rw [w_load_c] | rw [vO_some] | rw [w_not] | rw [w_eql])
  by_cases c0 : o.kind = o'.kind
  case neg =>
    rw [decide_eq_false c0]
    repeat (first | rw [outP_val] | rw [guardP_false] | rw [boolIs_bool] | rw [beq_tt] | rw [w_pick_b] | rw [if_neg Bool.false_ne_true])
    exact fin _ (by simp [eqV, c0])
  rw [decide_eq_true c0]
  repeat (first | rw [outP_val] | rw [guardP_true] | rw [g1] | rw [g2] | rw [op_f1] | rw [w_str_eq] | rw [boolIs_bool] | rw [beq_tt] | rw [w_pick_b] | rw [if_pos rfl] | rw [w_fieldAddr_ptr] | rw [Nat.zero_add] | rw [w_load_c] | rw [vO_some])
  by_cases c1 : o.col = o'.col
  case neg =>
    rw [decide_eq_false c1]
    repeat (first | rw [outP_val] | rw [guardP_false] | rw [boolIs_bool] | rw [beq_tt] | rw [w_pick_b] | rw [if_neg Bool.false_ne_true])
    exact fin _ (by simp [eqV, c1])
  rw [decide_eq_true c1]
  repeat (first | rw [outP_val] | rw [guardP_true] | rw [g1] | rw [g2] | rw [op_f2] | rw [w_str_eq] | rw [boolIs_bool] | rw [beq_tt] | rw [w_pick_b] | rw [if_pos rfl] | rw [w_fieldAddr_ptr] | rw [Nat.zero_add] | rw [w_load_c] | rw [vO_some])
  by_cases c2 : o.name = o'.name
  case neg =>
    rw [decide_eq_false c2]
    repeat (first | rw [outP_val] | rw [guardP_false] | rw [boolIs_bool] | rw [beq_tt] | rw [w_pick_b] | rw [if_neg Bool.false_ne_true])
    exact fin _ (by simp [eqV, c2])
  rw [decide_eq_true c2]
  repeat (first | rw [outP_val] | rw [guardP_true] | rw [g1] | rw [g2] | rw [op_f3] | rw [boolIs_bool] | rw [beq_tt] | rw [w_pick_b] | rw [if_pos rfl] | rw [w_fieldAddr_ptr] | rw [Nat.zero_add] | rw [w_load_c] | rw [vO_some] | rw [w_eql])
  by_cases c3 : o.id = o'.id
  case neg =>
    rw [decide_eq_false c3]
    repeat (first | rw [outP_val] | rw [guardP_false] | rw [boolIs_bool] | rw [beq_tt] | rw [w_pick_b] | rw [if_neg Bool.false_ne_true])
    exact fin _ (by simp [eqV, c3])
  rw [decide_eq_true c3]
  repeat (first | rw [outP_val] | rw [guardP_true] | rw [g1] | rw [g2] | rw [op_f4] | rw [boolIs_bool] | rw [beq_tt] | rw [w_pick_b] | rw [if_pos rfl] | rw [w_fieldAddr_ptr] | rw [Nat.zero_add] | rw [w_load_c] | rw [vO_some] | rw [w_eql])
  by_cases c4 : o.dim = o'.dim
  case neg =>
    rw [decide_eq_false c4]
    repeat (first | rw [outP_val] | rw [guardP_false] | rw [boolIs_bool] | rw [beq_tt] | rw [w_pick_b] | rw [if_neg Bool.false_ne_true])
    exact fin _ (by simp [eqV, c4])
  rw [decide_eq_true c4]
  repeat (first | rw [outP_val] | rw [guardP_true] | rw [g1] | rw [g2] | rw [op_f5] | rw [boolIs_bool] | rw [beq_tt] | rw [w_pick_b] | rw [if_pos rfl] | rw [w_fieldAddr_ptr] | rw [Nat.zero_add] | rw [w_load_c] | rw [vO_some] | rw [w_eql])
  by_cases c5 : o.metric = o'.metric
  case neg =>
    rw [decide_eq_false c5]
    repeat (first | rw [outP_val] | rw [guardP_false] | rw [boolIs_bool] | rw [beq_tt] | rw [w_pick_b] | rw [if_neg Bool.false_ne_true])
    exact fin _ (by simp [eqV, c5])
  rw [decide_eq_true c5]
  repeat (first | rw [outP_val] | rw [guardP_true] | rw [g1] | rw [g2] | rw [op_f6] | rw [boolIs_bool] | rw [beq_tt] | rw [w_pick_b] | rw [if_pos rfl] | rw [w_fieldAddr_ptr] | rw [Nat.zero_add] | rw [w_load_c] | rw [vO_some] | rw [w_eql])
  by_cases c6 : o.index = o'.index
  case neg =>
    rw [decide_eq_false c6]
    repeat (first | rw [outP_val] | rw [guardP_false] | rw [boolIs_bool] | rw [beq_tt] | rw [w_pick_b] | rw [if_neg Bool.false_ne_true])
    exact fin _ (by simp [eqV, c6])
  rw [decide_eq_true c6]
  repeat (first | rw [outP_val] | rw [guardP_true] | rw [g1] | rw [g2] | rw [op_f8] | rw [w_str_eq] | rw [boolIs_bool] | rw [beq_tt] | rw [w_pick_b] | rw [if_pos rfl] | rw [w_fieldAddr_ptr] | rw [Nat.zero_add] | rw [w_load_c] | rw [vO_some])
  by_cases c7 : o.pay = o'.pay
  case neg =>
    rw [decide_eq_false c7]
    repeat (first | rw [outP_val] | rw [guardP_false] | rw [boolIs_bool] | rw [beq_tt] | rw [w_pick_b] | rw [if_neg Bool.false_ne_true])
    exact fin _ (by simp [eqV, c7])
  rw [decide_eq_true c7]
  repeat (first | rw [outP_val] | rw [guardP_true] | rw [g1] | rw [g2] | rw [op_f9] | rw [boolIs_bool] | rw [beq_tt] | rw [w_pick_b] | rw [if_pos rfl] | rw [w_fieldAddr_ptr] | rw [Nat.zero_add] | rw [w_load_c] | rw [vO_some] | rw [w_eql])
  by_cases c8 : o.k = o'.k
  case neg =>
    rw [decide_eq_false c8]
    repeat (first | rw [outP_val] | rw [guardP_false] | rw [w_pick_b] | rw [if_neg Bool.false_ne_true])
    exact fin _ (by simp [eqV, c8])
  rw [decide_eq_true c8]
  repeat (first | rw [outP_val] | rw [guardP_true] | rw [g1] | rw [g2] | rw [op_f10] | rw [w_pick_b] | rw [if_pos rfl] | rw [w_fieldAddr_ptr] | rw [Nat.zero_add] | rw [w_load_c] | rw [vO_some] | rw [w_eql])
  exact fin _ (by simp [eqV, cv, c0, c1, c2, c3, c4, c5, c6, c7, c8])

/-! May it be? -/
def condV (o p : OpV) (vf : Bool) : Prop := (vf = true ∨ o.vec = []) ∧ p.col = [] ∧ p.name = [] ∧ p.pay = [] ∧ p.id = 0 ∧ p.dim = 0 ∧ p.metric = 0 ∧ p.index = 0 ∧ p.k = 0 ∧ p.draw = 0
set_option maxHeartbeats 1000000 in
theorem mayFin {b n0 n1 : Nat} {v v' : AV} {G : AH} (o p : OpV) (vf : Bool) (h : VecF G b v o.vec) (g1 : G.get n0 = some (.cells 26 (opC o v))) (g2 : G.get n1 = some (.cells 26 (opC p v'))) (K : AV → AH → Prop) (hK : ∀ r, (r = true ↔ condV o p vf) → K (.bool r) G) :
    m_fieldfareref18_MayOptttttttt K (.ptr (some (n0, 0))) (.ptr (some (n1, 0))) (.bool vf) G := by
  obtain ⟨f1, f2, f3⟩ := slk_facts h.slk
  unfold m_fieldfareref18_MayOptttttttt
  have lv := h.is.len vec_sl
  have no : ¬ condV o p vf → K (.bool false) G := fun q => hK false ⟨fun r => (by cases r), fun r => absurd r q⟩
  have start : (vf = true ∨ o.vec = []) ∨ (vf = false ∧ o.vec ≠ []) := by
    cases vf with
    | true => exact .inl (.inl rfl)
    | false => by_cases q : o.vec = []
               · exact .inl (.inr q)
               · exact .inr ⟨rfl, q⟩
  rcases start with hv | ⟨rfl, hv⟩
  case inr =>
    have d : decide ((o.vec.length : Int) = 0) = false := decide_eq_false fun q => hv (List.eq_nil_of_length_eq_zero (by omega))
    repeat (first | rw [outP_val] | rw [guardP_true] | rw [guardP_false] | rw [g1] | rw [op_f7 _ _ f2] | rw [lv] | rw [d] | rw [boolIs_bool] | rw [beq_tt] | rw [beq_ff] | rw [Bool.not_false] | rw [w_pick_b] | rw [if_neg Bool.false_ne_true] | rw [w_fieldAddr_ptr] | rw [Nat.zero_add] | rw [w_load_c] | rw [vO_some] | rw [w_eql])
    exact no fun q => by rcases q.1 with r | r; cases r; exact hv r
  have pass : ∀ X : (AV → AH → Prop), (∀ (t : AV), t = .bool true → X t G) → (guardP (boolIs false (.bool vf)) G (outP CC G (w_fieldAddr 7 G (.ptr (some (n0, 0)))) ) fun v1 H1 => guardP (boolIs false (.bool vf)) H1 (outP CC H1 (w_load none H1 v1)) fun v2 H2 => guardP (boolIs false (.bool vf)) H2 (outP CC H2 (w_len PP 23 H2 v2)) fun v3 H3 => guardP (boolIs false (.bool vf)) H3 (outP CC H3 (w_int .eql H3 v3 (.int .i64 0))) fun v4 H4 => outP CC H4 (w_pick H4 (.bool vf) (.bool true) v4) X) := by
    intro X hX
    cases vf with
    | true =>
      repeat (first | rw [outP_val] | rw [guardP_false] | rw [boolIs_bool] | rw [beq_ff] | rw [Bool.not_true] | rw [w_pick_b] | rw [if_pos rfl])
      exact hX _ rfl
    | false =>
      have hv : o.vec = [] := by rcases hv with q | q; cases q; exact q
      have d : decide ((o.vec.length : Int) = 0) = true := by rw [hv]; rfl
      repeat (first | rw [outP_val] | rw [guardP_true] | rw [g1] | rw [op_f7 _ _ f2] | rw [lv] | rw [d] | rw [boolIs_bool] | rw [beq_ff] | rw [Bool.not_false] | rw [w_pick_b] | rw [if_neg Bool.false_ne_true] | rw [w_fieldAddr_ptr] | rw [Nat.zero_add] | rw [w_load_c] | rw [vO_some] | rw [w_eql])
      exact hX _ rfl
  refine pass _ fun t ht => ?_
  subst ht
  repeat (first | rw [outP_val] | rw [guardP_true] | rw [g2] | rw [op_f1] | rw [w_str_eq] | rw [boolIs_bool] | rw [beq_tt] | rw [w_pick_b] | rw [if_pos rfl] | rw [w_fieldAddr_ptr] | rw [Nat.zero_add] | rw [w_load_c] | rw [vO_some])
  by_cases c0 : p.col = []
  case neg =>
    rw [decide_eq_false c0]
    repeat (first | rw [outP_val] | rw [guardP_false] | rw [boolIs_bool] | rw [beq_tt] | rw [w_pick_b] | rw [if_neg Bool.false_ne_true])
    exact no fun q => c0 q.2.1
  rw [decide_eq_true c0]
  repeat (first | rw [outP_val] | rw [guardP_true] | rw [g2] | rw [op_f2] | rw [w_str_eq] | rw [boolIs_bool] | rw [beq_tt] | rw [w_pick_b] | rw [if_pos rfl] | rw [w_fieldAddr_ptr] | rw [Nat.zero_add] | rw [w_load_c] | rw [vO_some])
  by_cases c1 : p.name = []
  case neg =>
    rw [decide_eq_false c1]
    repeat (first | rw [outP_val] | rw [guardP_false] | rw [boolIs_bool] | rw [beq_tt] | rw [w_pick_b] | rw [if_neg Bool.false_ne_true])
    exact no fun q => c1 q.2.2.1
  rw [decide_eq_true c1]
  repeat (first | rw [outP_val] | rw [guardP_true] | rw [g2] | rw [op_f8] | rw [w_str_eq] | rw [boolIs_bool] | rw [beq_tt] | rw [w_pick_b] | rw [if_pos rfl] | rw [w_fieldAddr_ptr] | rw [Nat.zero_add] | rw [w_load_c] | rw [vO_some])
  by_cases c2 : p.pay = []
  case neg =>
    rw [decide_eq_false c2]
    repeat (first | rw [outP_val] | rw [guardP_false] | rw [boolIs_bool] | rw [beq_tt] | rw [w_pick_b] | rw [if_neg Bool.false_ne_true])
    exact no fun q => c2 q.2.2.2.1
  rw [decide_eq_true c2]
  repeat (first | rw [outP_val] | rw [guardP_true] | rw [g2] | rw [op_f3] | rw [boolIs_bool] | rw [beq_tt] | rw [w_pick_b] | rw [if_pos rfl] | rw [w_fieldAddr_ptr] | rw [Nat.zero_add] | rw [w_load_c] | rw [vO_some] | rw [w_eql])
  by_cases c3 : p.id = 0
  case neg =>
    rw [decide_eq_false c3]
    repeat (first | rw [outP_val] | rw [guardP_false] | rw [boolIs_bool] | rw [beq_tt] | rw [w_pick_b] | rw [if_neg Bool.false_ne_true])
    exact no fun q => c3 q.2.2.2.2.1
  rw [decide_eq_true c3]
  repeat (first | rw [outP_val] | rw [guardP_true] | rw [g2] | rw [op_f4] | rw [boolIs_bool] | rw [beq_tt] | rw [w_pick_b] | rw [if_pos rfl] | rw [w_fieldAddr_ptr] | rw [Nat.zero_add] | rw [w_load_c] | rw [vO_some] | rw [w_eql])
  by_cases c4 : p.dim = 0
  case neg =>
    rw [decide_eq_false c4]
    repeat (first | rw [outP_val] | rw [guardP_false] | rw [boolIs_bool] | rw [beq_tt] | rw [w_pick_b] | rw [if_neg Bool.false_ne_true])
    exact no fun q => c4 q.2.2.2.2.2.1
  rw [decide_eq_true c4]
  repeat (first | rw [outP_val] | rw [guardP_true] | rw [g2] | rw [op_f5] | rw [boolIs_bool] | rw [beq_tt] | rw [w_pick_b] | rw [if_pos rfl] | rw [w_fieldAddr_ptr] | rw [Nat.zero_add] | rw [w_load_c] | rw [vO_some] | rw [w_eql])
  by_cases c5 : p.metric = 0
  case neg =>
    rw [decide_eq_false c5]
    repeat (first | rw [outP_val] | rw [guardP_false] | rw [boolIs_bool] | rw [beq_tt] | rw [w_pick_b] | rw [if_neg Bool.false_ne_true])
    exact no fun q => c5 q.2.2.2.2.2.2.1
  rw [decide_eq_true c5]
  repeat (first | rw [outP_val] | rw [guardP_true] | rw [g2] | rw [op_f6] | rw [boolIs_bool] | rw [beq_tt] | rw [w_pick_b] | rw [if_pos rfl] | rw [w_fieldAddr_ptr] | rw [Nat.zero_add] | rw [w_load_c] | rw [vO_some] | rw [w_eql])
  by_cases c6 : p.index = 0
  case neg =>
    rw [decide_eq_false c6]
    repeat (first | rw [outP_val] | rw [guardP_false] | rw [boolIs_bool] | rw [beq_tt] | rw [w_pick_b] | rw [if_neg Bool.false_ne_true])
    exact no fun q => c6 q.2.2.2.2.2.2.2.1
  rw [decide_eq_true c6]
  repeat (first | rw [outP_val] | rw [guardP_true] | rw [g2] | rw [op_f9] | rw [boolIs_bool] | rw [beq_tt] | rw [w_pick_b] | rw [if_pos rfl] | rw [w_fieldAddr_ptr] | rw [Nat.zero_add] | rw [w_load_c] | rw [vO_some] | rw [w_eql])
  by_cases c7 : p.k = 0
  case neg =>
    rw [decide_eq_false c7]
    repeat (first | rw [outP_val] | rw [guardP_false] | rw [w_pick_b] | rw [if_neg Bool.false_ne_true])
    exact no fun q => c7 q.2.2.2.2.2.2.2.2.1
  rw [decide_eq_true c7]
  repeat (first | rw [outP_val] | rw [guardP_true] | rw [g2] | rw [op_f10] | rw [w_pick_b] | rw [if_pos rfl] | rw [w_load_c] | rw [vO_some] | rw [w_eql])
  exact hK _ (by rw [decide_eq_true_eq]; exact ⟨fun q => ⟨hv, c0, c1, c2, c3, c4, c5, c6, c7, q⟩, fun q => q.2.2.2.2.2.2.2.2.2⟩)
set_option maxHeartbeats 8000000 in
theorem mayOp_wp {b : Nat} {v : AV} (o : OpV) (h : VecF H b v o.vec) (K : AV → AH → Prop) (hK : ∀ H' r, Ext [] H H' → (r = true ↔ MayV o) → K (.bool r) H') : CC.call 9 [opA o v] H K := by
  refine m_fieldfareref18_MayOp_ok _ _ _ ?_
  unfold m_fieldfareref18_MayOp
  obtain ⟨f1, f2, f3⟩ := slk_facts h.slk
  rw [op_box o f1, outP_val]
  have x1 : Ext [] H (H.new (.cells 26 (opC o v))) := (Ext.refl _ _).new _
  have g3 := get_new_same H (.cells 26 (opC o v))
  have nx : H.next < (H.new (.cells 26 (opC o v))).next := by rw [next_new]; omega
  generalize H.new (.cells 26 (opC o v)) = G3 at *
  have l11 := ld11 26 (op_len o v) (op_known o f3)
  have bad : ∀ G', Ext [] H G' → ¬ MayV o → K (.bool false) G' := fun G' x q => hK G' false x ⟨fun r => (by cases r), fun r => absurd r q⟩
  unfold m_fieldfareref18_MayOpt
  have lv := ((h.mono x1).is).len vec_sl
  repeat (first | rw [outP_val] | rw [g3] | rw [op_f0] | rw [boolIs_bool] | rw [beq_ff] | rw [w_fieldAddr_ptr] | rw [Nat.zero_add] | rw [w_load_c] | rw [vO_some] | rw [w_lss])
  by_cases c0 : o.kind < 1
  case pos =>
    rw [decide_eq_true c0]
    repeat (first | rw [outP_val] | rw [guardP_false] | rw [condP_true] | rw [boolIs_bool] | rw [beq_ff] | rw [Bool.not_true] | rw [w_pick_b] | rw [if_pos rfl])
    exact bad _ x1 fun q => by have := q.1; omega
  rw [decide_eq_false c0]
  repeat (first | rw [outP_val] | rw [guardP_true] | rw [g3] | rw [op_f0] | rw [boolIs_bool] | rw [beq_ff] | rw [Bool.not_false] | rw [w_pick_b] | rw [if_neg Bool.false_ne_true] | rw [w_fieldAddr_ptr] | rw [Nat.zero_add] | rw [w_load_c] | rw [vO_some] | rw [w_gtr])
  by_cases c1 : 15 < o.kind
  case pos =>
    rw [decide_eq_true c1]
    repeat (first | rw [outP_val] | rw [guardP_false] | rw [condP_true] | rw [boolIs_bool] | rw [beq_ff] | rw [Bool.not_true] | rw [w_pick_b] | rw [if_pos rfl])
    exact bad _ x1 fun q => by have := q.2.1; omega
  rw [decide_eq_false c1]
  repeat (first | rw [outP_val] | rw [guardP_true] | rw [g3] | rw [op_f1] | rw [len_str] | rw [boolIs_bool] | rw [beq_ff] | rw [Bool.not_false] | rw [w_pick_b] | rw [if_neg Bool.false_ne_true] | rw [w_fieldAddr_ptr] | rw [Nat.zero_add] | rw [w_load_c] | rw [vO_some] | rw [w_gtr])
  by_cases c2 : (12 : Int) < (o.col.length : Int)
  case pos =>
    rw [decide_eq_true c2]
    repeat (first | rw [outP_val] | rw [guardP_false] | rw [condP_true] | rw [boolIs_bool] | rw [beq_ff] | rw [Bool.not_true] | rw [w_pick_b] | rw [if_pos rfl])
    exact bad _ x1 fun q => by have := q.2.2.2.1; omega
  rw [decide_eq_false c2]
  repeat (first | rw [outP_val] | rw [guardP_true] | rw [g3] | rw [op_f2] | rw [len_str] | rw [boolIs_bool] | rw [beq_ff] | rw [Bool.not_false] | rw [w_pick_b] | rw [if_neg Bool.false_ne_true] | rw [w_fieldAddr_ptr] | rw [Nat.zero_add] | rw [w_load_c] | rw [vO_some] | rw [w_gtr])
  by_cases c3 : (12 : Int) < (o.name.length : Int)
  case pos =>
    rw [decide_eq_true c3]
    repeat (first | rw [outP_val] | rw [guardP_false] | rw [condP_true] | rw [boolIs_bool] | rw [beq_ff] | rw [Bool.not_true] | rw [w_pick_b] | rw [if_pos rfl])
    exact bad _ x1 fun q => by have := q.2.2.2.2.1; omega
  rw [decide_eq_false c3]
  repeat (first | rw [outP_val] | rw [guardP_true] | rw [g3] | rw [op_f7 _ _ f2] | rw [lv] | rw [boolIs_bool] | rw [beq_ff] | rw [Bool.not_false] | rw [w_pick_b] | rw [if_neg Bool.false_ne_true] | rw [w_fieldAddr_ptr] | rw [Nat.zero_add] | rw [w_load_c] | rw [vO_some] | rw [w_gtr])
  by_cases c4 : (8 : Int) < (o.vec.length : Int)
  case pos =>
    rw [decide_eq_true c4]
    repeat (first | rw [outP_val] | rw [guardP_false] | rw [condP_true] | rw [Bool.not_true] | rw [w_pick_b] | rw [if_pos rfl])
    exact bad _ x1 fun q => by have := q.2.2.2.2.2.1; omega
  rw [decide_eq_false c4]
  repeat (first | rw [outP_val] | rw [guardP_true] | rw [g3] | rw [op_f8] | rw [len_str] | rw [Bool.not_false] | rw [w_pick_b] | rw [if_neg Bool.false_ne_true] | rw [w_load_c] | rw [vO_some] | rw [w_gtr])
  by_cases c5 : (40 : Int) < (o.pay.length : Int)
  case pos =>
    rw [decide_eq_true c5]
    repeat rw [condP_true]
    exact bad _ x1 fun q => by have := q.2.2.2.2.2.2.1; omega
  rw [decide_eq_false c5]
  repeat rw [condP_false]
  unfold m_fieldfareref18_MayOptth
  repeat (first | rw [outP_val] | rw [g3] | rw [op_f3] | rw [op_f4] | rw [op_f5] | rw [op_f6] | rw [op_f9] | rw [w_fieldAddr_ptr] | rw [Nat.zero_add] | rw [w_load_c] | rw [vO_some])
  rw [bs_5, outP_val]
  have is5 := (os_5 (H := G3) o.id o.dim o.metric o.index o.k).is
  have x4 : Ext [] H (G3.new (.cells 3 [.int .i64 o.id, .int .i64 o.dim, .int .i64 o.metric, .int .i64 o.index, .int .i64 o.k])) := x1.new _
  have g4 : (G3.new (.cells 3 [.int .i64 o.id, .int .i64 o.dim, .int .i64 o.metric, .int .i64 o.index, .int .i64 o.k])).get H.next = _ := ((Ext.refl [] G3).new _).get nx (by simp) g3
  have nx4 : H.next < (G3.new (.cells 3 [.int .i64 o.id, .int .i64 o.dim, .int .i64 o.metric, .int .i64 o.index, .int .i64 o.k])).next := by rw [next_new]; omega
  generalize G3.new (.cells 3 [.int .i64 o.id, .int .i64 o.dim, .int .i64 o.metric, .int .i64 o.index, .int .i64 o.k]) = G4 at *
  have key1 : (∀ x ∈ [o.id, o.dim, o.metric, o.index, o.k], inM x) → (MayV o ↔ bareV o = o) := by
    intro q
    simp only [List.mem_cons, List.not_mem_nil, or_false, forall_eq_or_imp, forall_eq] at q
    exact ⟨fun m => m.2.2.1, fun m => ⟨by omega, by omega, m, by omega, by omega, by omega, by omega, q⟩⟩
  have key2 : MayV o → ∀ x ∈ [o.id, o.dim, o.metric, o.index, o.k], inM x := by
    rintro ⟨_, _, _, _, _, _, _, q⟩
    simp only [List.mem_cons, List.not_mem_nil, or_false, forall_eq_or_imp, forall_eq]
    exact q
  generalize hL : [o.id, o.dim, o.metric, o.index, o.k] = L at *
  have hLl : L.length = 5 := by rw [← hL]; rfl
  rw [is5.len ints_slQ, outP_val]
  unfold m_fieldfareref18_MayOptthtb
  refine loopP_rule (I := fun t G => ∃ j : Nat, t = (.ptr (some (H.next, 0)), .slice (some (G3.next, 0)) 5 5 true, .int .i64 L.length, .int .i64 j) ∧ j ≤ L.length ∧ G = G4 ∧ ∀ x ∈ L.take j, inM x) (μ := fun t _ => match t.2.2.2 with | .int _ z => L.length - z.toNat | _ => 0) ?_ ⟨0, rfl, Nat.zero_le _, rfl, fun x hx => by simp at hx⟩
  rintro t G' ⟨j, rfl, hj, rfl, hin⟩ rec hrec
  unfold m_fieldfareref18_MayOptthtbl
  rw [w_lss, outP_val]
  by_cases cj : j < L.length
  · obtain ⟨p, a1, a2, a3⟩ := is5.at cj
    rw [decide_eq_true (by omega), condP_true, a1, outP_val, w_load_c, a3, vO_some, outP_val]
    have mem := List.getElem_mem cj
    by_cases d1 : L[j] < 0
    · have e1 := decide_eq_true d1
      repeat (first | rw [outP_val] | rw [guardP_false] | rw [condP_true] | rw [e1] | rw [boolIs_bool] | rw [beq_ff] | rw [Bool.not_true] | rw [w_pick_b] | rw [if_pos rfl] | rw [w_lss])
      exact bad _ x4 fun q => by have := key2 q _ mem; omega
    · have e1 := decide_eq_false d1
      by_cases d2 : 1000000 < L[j]
      · have e2 := decide_eq_true d2
        repeat (first | rw [outP_val] | rw [guardP_true] | rw [condP_true] | rw [e1] | rw [e2] | rw [boolIs_bool] | rw [beq_ff] | rw [Bool.not_false] | rw [w_pick_b] | rw [if_neg Bool.false_ne_true] | rw [w_lss] | rw [w_gtr])
        exact bad _ x4 fun q => by have := key2 q _ mem; omega
      · have e2 := decide_eq_false d2
        repeat (first | rw [outP_val] | rw [guardP_true] | rw [e1] | rw [e2] | rw [condP_false] | rw [boolIs_bool] | rw [beq_ff] | rw [Bool.not_false] | rw [w_pick_b] | rw [if_neg Bool.false_ne_true] | rw [w_lss] | rw [w_gtr] | rw [w_add_in (by omega) (by omega)])
        refine hrec _ _ ⟨j + 1, by rfl, by omega, rfl, fun x hx => ?_⟩ ?_
        · rw [List.take_succ_eq_append_getElem cj] at hx
          rcases List.mem_append.1 hx with q | q
          · exact hin x q
          · rw [List.mem_singleton.1 q]; exact ⟨by omega, by omega⟩
        · show L.length - ((j : Int) + 1).toNat < L.length - (j : Int).toNat
          omega
  rw [decide_eq_false (by omega), condP_false]
  rw [List.take_of_length_le (by omega)] at hin
  have key := key1 hin
  clear hrec rec key1 key2 hin bad is5 hL hLl cj hj
  unfold m_fieldfareref18_MayOpttt
  rw [w_load_n, g4, l11, vO_some, outP_val, op_alloc, outP_val]
  have x5 : Ext [] H (G'.new (.cells 26 (opC OpV.zero (.slice none 0 0 true)))) := x4.new _
  have g5 := get_new_same G' (.cells 26 (opC OpV.zero (.slice none 0 0 true)))
  have g6 : (G'.new (.cells 26 (opC OpV.zero (.slice none 0 0 true)))).get H.next = _ := ((Ext.refl [] G').new _).get nx4 (by simp) g4
  have nx5 : H.next < (G'.new (.cells 26 (opC OpV.zero (.slice none 0 0 true)))).next := by rw [next_new]; omega
  obtain ⟨n1, hn1⟩ : ∃ n1, n1 = G'.next := ⟨_, rfl⟩
  rw [← hn1] at g5 nx4 ⊢
  have hnH : H.next ≤ n1 := by rw [hn1]; exact x4.next
  clear hn1 x4 g4
  generalize G'.new (.cells 26 (opC OpV.zero (.slice none 0 0 true))) = G5 at *
  have pA : ∀ (G : AH) x, (G.put n1 x).get H.next = G.get H.next := fun G x => get_put_ne x (by omega)
  have fin : ∀ (p : OpV) (u : AV) (vf : Bool) (G : AH), Ext [n1] G5 G → G.get n1 = some (.cells 26 (opC p u)) → (bareV o = o ↔ condV o p vf) → m_fieldfareref18_MayOptttttttt K (.ptr (some (H.next, 0))) (.ptr (some (n1, 0))) (.bool vf) G := by
    intro p u vf G xg gp hi
    have gA : G.get H.next = some (.cells 26 (opC o v)) := by
      rw [xg.same H.next nx5 (by simp; omega), g6]
    have xx : Ext [] H G := ((x5.mono (m' := [n1]) (by simp)).trans xg).mono fun b hb hlt => by simp at hb; omega
    refine mayFin o p vf (h.mono xx) gA gp K fun r hr => hK G r xx ?_
    rw [hr, key, hi]
  rw [w_store_c, g5, st11 _ _ (op_len _ _) (op_len _ _) (op_one _ f1), outP_skip]
  unfold m_fieldfareref18_MayOptttt
  repeat (first | rw [outP_val] | rw [get_put_same] | rw [op_s0] | rw [op_s7 _ _ _ _ _ [] (show AV.one (.slice none 0 0 true) = true from rfl)] | rw [outP_skip] | rw [w_fieldAddr_ptr] | rw [Nat.zero_add] | rw [w_store_c])
  unfold m_fieldfareref18_MayOpttttt m_fieldfareref18_MayOptttttt
  rcases kind_cases (show 1 ≤ o.kind by omega) (show o.kind ≤ 15 by omega) with c | c | c | c | c | c | c | c | c | c | c | c | c | c | c
  · repeat (first | rw [outP_val] | rw [guardP_false] | rw [condP_true] | rw [g6] | rw [pA] | rw [get_put_same] | rw [op_f0] | rw [c] | rw [show decide ((1 : Int) = 1) = true from rfl] | rw [show decide ((1 : Int) ≤ 6) = true from rfl] | rw [op_s1] | rw [op_s4] | rw [op_s5] | rw [op_s6] | rw [boolIs_bool] | rw [beq_ff] | rw [Bool.not_true] | rw [outP_skip] | rw [w_pick_b] | rw [if_pos rfl] | rw [w_fieldAddr_ptr] | rw [Nat.zero_add] | rw [w_load_c] | rw [vO_some] | rw [w_store_c] | rw [w_leq] | rw [w_eql] | unfold m_fieldfareref18_MayOpttttttth | unfold m_fieldfareref18_MayOpttttttthtb | unfold m_fieldfareref18_MayOpttttttthtbt | unfold m_fieldfareref18_MayOpttttttthtbty)
    exact fin _ _ _ _ (by repeat (first | exact Ext.refl _ _ | refine Ext.put ?_ (.inr (by simp)) _)) (get_put_same _ _) (by
      clear fin pA key hK g3 g5 g6 l11 x1 x5 h
      obtain ⟨kind, col, name, id, dim, metric, index, vec, pay, k, draw⟩ := o
      simp only at c
      subst c
      unfold bareV condV
      repeat (first | unfold OpV.s10 | unfold OpV.s9 | unfold OpV.s8 | unfold OpV.s7 | unfold OpV.s6 | unfold OpV.s5 | unfold OpV.s4 | unfold OpV.s3 | unfold OpV.s2 | unfold OpV.s1 | unfold OpV.s0 | unfold OpV.zero)
      simp [eq_comm (a := (0 : Int))]
      all_goals (first | (constructor <;> (intro q; simp_all; done)) | (intro q; constructor <;> (intro q'; simp_all))))
  · repeat (first | rw [outP_val] | rw [guardP_false] | rw [condP_true] | rw [g6] | rw [pA] | rw [get_put_same] | rw [op_f0] | rw [c] | rw [show decide ((2 : Int) = 1) = false from rfl] | rw [show decide ((2 : Int) = 3) = false from rfl] | rw [show decide ((2 : Int) = 4) = false from rfl] | rw [show decide ((2 : Int) = 12) = false from rfl] | rw [show decide ((2 : Int) = 5) = false from rfl] | rw [show decide ((2 : Int) = 6) = false from rfl] | rw [show decide ((2 : Int) = 10) = false from rfl] | rw [show decide ((2 : Int) = 13) = false from rfl] | rw [show decide ((2 : Int) ≤ 6) = true from rfl] | rw [op_s1] | rw [condP_false] | rw [boolIs_bool] | rw [beq_ff] | rw [Bool.not_true] | rw [outP_skip] | rw [w_pick_b] | rw [if_pos rfl] | rw [w_fieldAddr_ptr] | rw [Nat.zero_add] | rw [w_load_c] | rw [vO_some] | rw [w_store_c] | rw [w_leq] | rw [w_eql] | unfold m_fieldfareref18_MayOpttttttth | unfold m_fieldfareref18_MayOpttttttthtb | unfold m_fieldfareref18_MayOpttttttthtbt | unfold m_fieldfareref18_MayOpttttttthtbtn | unfold m_fieldfareref18_MayOpttttttthtbtnt | unfold m_fieldfareref18_MayOpttttttthtbtntn | unfold m_fieldfareref18_MayOpttttttthtbtntnt)
    exact fin _ _ _ _ (by repeat (first | exact Ext.refl _ _ | refine Ext.put ?_ (.inr (by simp)) _)) (get_put_same _ _) (by
      clear fin pA key hK g3 g5 g6 l11 x1 x5 h
      obtain ⟨kind, col, name, id, dim, metric, index, vec, pay, k, draw⟩ := o
      simp only at c
      subst c
      unfold bareV condV
      repeat (first | unfold OpV.s10 | unfold OpV.s9 | unfold OpV.s8 | unfold OpV.s7 | unfold OpV.s6 | unfold OpV.s5 | unfold OpV.s4 | unfold OpV.s3 | unfold OpV.s2 | unfold OpV.s1 | unfold OpV.s0 | unfold OpV.zero)
      simp [eq_comm (a := (0 : Int))]
      all_goals (first | (constructor <;> (intro q; simp_all; done)) | (intro q; constructor <;> (intro q'; simp_all))))
  · repeat (first | rw [outP_val] | rw [guardP_false] | rw [condP_true] | rw [g6] | rw [pA] | rw [get_put_same] | rw [op_f0] | rw [c] | rw [show decide ((3 : Int) = 1) = false from rfl] | rw [show decide ((3 : Int) = 3) = true from rfl] | rw [show decide ((3 : Int) ≤ 6) = true from rfl] | rw [op_s1] | rw [op_s3] | rw [op_s8] | rw [op_s10] | rw [condP_false] | rw [boolIs_bool] | rw [beq_ff] | rw [Bool.not_true] | rw [outP_skip] | rw [w_pick_b] | rw [if_pos rfl] | rw [w_fieldAddr_ptr] | rw [Nat.zero_add] | rw [w_load_c] | rw [vO_some] | rw [w_store_c] | rw [w_leq] | rw [w_eql] | unfold m_fieldfareref18_MayOpttttttth | unfold m_fieldfareref18_MayOpttttttthtb | unfold m_fieldfareref18_MayOpttttttthtbt | unfold m_fieldfareref18_MayOpttttttthtbtn | unfold m_fieldfareref18_MayOpttttttthtbtnt | unfold m_fieldfareref18_MayOpttttttthtbtnty)
    exact fin _ _ _ _ (by repeat (first | exact Ext.refl _ _ | refine Ext.put ?_ (.inr (by simp)) _)) (get_put_same _ _) (by
      clear fin pA key hK g3 g5 g6 l11 x1 x5 h
      obtain ⟨kind, col, name, id, dim, metric, index, vec, pay, k, draw⟩ := o
      simp only at c
      subst c
      unfold bareV condV
      repeat (first | unfold OpV.s10 | unfold OpV.s9 | unfold OpV.s8 | unfold OpV.s7 | unfold OpV.s6 | unfold OpV.s5 | unfold OpV.s4 | unfold OpV.s3 | unfold OpV.s2 | unfold OpV.s1 | unfold OpV.s0 | unfold OpV.zero)
      simp [eq_comm (a := (0 : Int))]
      all_goals (first | (constructor <;> (intro q; simp_all; done)) | (intro q; constructor <;> (intro q'; simp_all))))
  · repeat (first | rw [outP_val] | rw [guardP_false] | rw [condP_true] | rw [g6] | rw [pA] | rw [get_put_same] | rw [op_f0] | rw [c] | rw [show decide ((4 : Int) = 1) = false from rfl] | rw [show decide ((4 : Int) = 3) = false from rfl] | rw [show decide ((4 : Int) = 4) = true from rfl] | rw [show decide ((4 : Int) ≤ 6) = true from rfl] | rw [op_s1] | rw [op_s3] | rw [condP_false] | rw [boolIs_bool] | rw [beq_ff] | rw [Bool.not_true] | rw [outP_skip] | rw [w_pick_b] | rw [if_pos rfl] | rw [w_fieldAddr_ptr] | rw [Nat.zero_add] | rw [w_load_c] | rw [vO_some] | rw [w_store_c] | rw [w_leq] | rw [w_eql] | unfold m_fieldfareref18_MayOpttttttth | unfold m_fieldfareref18_MayOpttttttthtb | unfold m_fieldfareref18_MayOpttttttthtbt | unfold m_fieldfareref18_MayOpttttttthtbtn | unfold m_fieldfareref18_MayOpttttttthtbtnt | unfold m_fieldfareref18_MayOpttttttthtbtntn | unfold m_fieldfareref18_MayOpttttttthtbtntnt)
    exact fin _ _ _ _ (by repeat (first | exact Ext.refl _ _ | refine Ext.put ?_ (.inr (by simp)) _)) (get_put_same _ _) (by
      clear fin pA key hK g3 g5 g6 l11 x1 x5 h
      obtain ⟨kind, col, name, id, dim, metric, index, vec, pay, k, draw⟩ := o
      simp only at c
      subst c
      unfold bareV condV
      repeat (first | unfold OpV.s10 | unfold OpV.s9 | unfold OpV.s8 | unfold OpV.s7 | unfold OpV.s6 | unfold OpV.s5 | unfold OpV.s4 | unfold OpV.s3 | unfold OpV.s2 | unfold OpV.s1 | unfold OpV.s0 | unfold OpV.zero)
      simp [eq_comm (a := (0 : Int))]
      all_goals (first | (constructor <;> (intro q; simp_all; done)) | (intro q; constructor <;> (intro q'; simp_all))))
  · repeat (first | rw [outP_val] | rw [guardP_false] | rw [condP_true] | rw [g6] | rw [pA] | rw [get_put_same] | rw [op_f0] | rw [c] | rw [show decide ((5 : Int) = 1) = false from rfl] | rw [show decide ((5 : Int) = 3) = false from rfl] | rw [show decide ((5 : Int) = 4) = false from rfl] | rw [show decide ((5 : Int) = 12) = false from rfl] | rw [show decide ((5 : Int) = 5) = true from rfl] | rw [show decide ((5 : Int) ≤ 6) = true from rfl] | rw [op_s1] | rw [op_s2] | rw [condP_false] | rw [boolIs_bool] | rw [beq_ff] | rw [Bool.not_true] | rw [outP_skip] | rw [w_pick_b] | rw [if_pos rfl] | rw [w_fieldAddr_ptr] | rw [Nat.zero_add] | rw [w_load_c] | rw [vO_some] | rw [w_store_c] | rw [w_leq] | rw [w_eql] | unfold m_fieldfareref18_MayOpttttttth | unfold m_fieldfareref18_MayOpttttttthtb | unfold m_fieldfareref18_MayOpttttttthtbt | unfold m_fieldfareref18_MayOpttttttthtbtn | unfold m_fieldfareref18_MayOpttttttthtbtnt | unfold m_fieldfareref18_MayOpttttttthtbtntn | unfold m_fieldfareref18_MayOpttttttthtbtntnt)
    exact fin _ _ _ _ (by repeat (first | exact Ext.refl _ _ | refine Ext.put ?_ (.inr (by simp)) _)) (get_put_same _ _) (by
      clear fin pA key hK g3 g5 g6 l11 x1 x5 h
      obtain ⟨kind, col, name, id, dim, metric, index, vec, pay, k, draw⟩ := o
      simp only at c
      subst c
      unfold bareV condV
      repeat (first | unfold OpV.s10 | unfold OpV.s9 | unfold OpV.s8 | unfold OpV.s7 | unfold OpV.s6 | unfold OpV.s5 | unfold OpV.s4 | unfold OpV.s3 | unfold OpV.s2 | unfold OpV.s1 | unfold OpV.s0 | unfold OpV.zero)
      simp [eq_comm (a := (0 : Int))]
      all_goals (first | (constructor <;> (intro q; simp_all; done)) | (intro q; constructor <;> (intro q'; simp_all))))
  · repeat (first | rw [outP_val] | rw [guardP_false] | rw [condP_true] | rw [g6] | rw [pA] | rw [get_put_same] | rw [op_f0] | rw [c] | rw [show decide ((6 : Int) = 1) = false from rfl] | rw [show decide ((6 : Int) = 3) = false from rfl] | rw [show decide ((6 : Int) = 4) = false from rfl] | rw [show decide ((6 : Int) = 12) = false from rfl] | rw [show decide ((6 : Int) = 5) = false from rfl] | rw [show decide ((6 : Int) = 6) = true from rfl] | rw [show decide ((6 : Int) ≤ 6) = true from rfl] | rw [op_s1] | rw [op_s6] | rw [condP_false] | rw [boolIs_bool] | rw [beq_ff] | rw [Bool.not_true] | rw [outP_skip] | rw [w_pick_b] | rw [if_pos rfl] | rw [w_fieldAddr_ptr] | rw [Nat.zero_add] | rw [w_load_c] | rw [vO_some] | rw [w_store_c] | rw [w_leq] | rw [w_eql] | unfold m_fieldfareref18_MayOpttttttth | unfold m_fieldfareref18_MayOpttttttthtb | unfold m_fieldfareref18_MayOpttttttthtbt | unfold m_fieldfareref18_MayOpttttttthtbtn | unfold m_fieldfareref18_MayOpttttttthtbtnt | unfold m_fieldfareref18_MayOpttttttthtbtntn | unfold m_fieldfareref18_MayOpttttttthtbtntnt)
    exact fin _ _ _ _ (by repeat (first | exact Ext.refl _ _ | refine Ext.put ?_ (.inr (by simp)) _)) (get_put_same _ _) (by
      clear fin pA key hK g3 g5 g6 l11 x1 x5 h
      obtain ⟨kind, col, name, id, dim, metric, index, vec, pay, k, draw⟩ := o
      simp only at c
      subst c
      unfold bareV condV
      repeat (first | unfold OpV.s10 | unfold OpV.s9 | unfold OpV.s8 | unfold OpV.s7 | unfold OpV.s6 | unfold OpV.s5 | unfold OpV.s4 | unfold OpV.s3 | unfold OpV.s2 | unfold OpV.s1 | unfold OpV.s0 | unfold OpV.zero)
      simp [eq_comm (a := (0 : Int))]
      all_goals (first | (constructor <;> (intro q; simp_all; done)) | (intro q; constructor <;> (intro q'; simp_all))))
  · repeat (first | rw [outP_val] | rw [guardP_true] | rw [g6] | rw [pA] | rw [op_f0] | rw [c] | rw [show decide ((7 : Int) = 1) = false from rfl] | rw [show decide ((7 : Int) = 3) = false from rfl] | rw [show decide ((7 : Int) = 4) = false from rfl] | rw [show decide ((7 : Int) = 12) = false from rfl] | rw [show decide ((7 : Int) = 5) = false from rfl] | rw [show decide ((7 : Int) = 6) = false from rfl] | rw [show decide ((7 : Int) = 10) = false from rfl] | rw [show decide ((7 : Int) = 13) = false from rfl] | rw [show decide ((7 : Int) = 15) = false from rfl] | rw [show decide ((7 : Int) ≤ 6) = false from rfl] | rw [condP_false] | rw [boolIs_bool] | rw [beq_ff] | rw [Bool.not_false] | rw [w_pick_b] | rw [if_neg Bool.false_ne_true] | rw [w_fieldAddr_ptr] | rw [Nat.zero_add] | rw [w_load_c] | rw [vO_some] | rw [w_leq] | rw [w_eql] | unfold m_fieldfareref18_MayOpttttttth | unfold m_fieldfareref18_MayOpttttttthtb | unfold m_fieldfareref18_MayOpttttttthtbt | unfold m_fieldfareref18_MayOpttttttthtbtn | unfold m_fieldfareref18_MayOpttttttthtbtnt | unfold m_fieldfareref18_MayOpttttttthtbtntn | unfold m_fieldfareref18_MayOpttttttthtbtntnt)
    exact fin _ _ _ _ (by repeat (first | exact Ext.refl _ _ | refine Ext.put ?_ (.inr (by simp)) _)) (get_put_same _ _) (by
      clear fin pA key hK g3 g5 g6 l11 x1 x5 h
      obtain ⟨kind, col, name, id, dim, metric, index, vec, pay, k, draw⟩ := o
      simp only at c
      subst c
      unfold bareV condV
      repeat (first | unfold OpV.s10 | unfold OpV.s9 | unfold OpV.s8 | unfold OpV.s7 | unfold OpV.s6 | unfold OpV.s5 | unfold OpV.s4 | unfold OpV.s3 | unfold OpV.s2 | unfold OpV.s1 | unfold OpV.s0 | unfold OpV.zero)
      simp [eq_comm (a := (0 : Int))]
      all_goals (first | (constructor <;> (intro q; simp_all; done)) | (intro q; constructor <;> (intro q'; simp_all))))
  · repeat (first | rw [outP_val] | rw [guardP_true] | rw [g6] | rw [pA] | rw [op_f0] | rw [c] | rw [show decide ((8 : Int) = 1) = false from rfl] | rw [show decide ((8 : Int) = 3) = false from rfl] | rw [show decide ((8 : Int) = 4) = false from rfl] | rw [show decide ((8 : Int) = 12) = false from rfl] | rw [show decide ((8 : Int) = 5) = false from rfl] | rw [show decide ((8 : Int) = 6) = false from rfl] | rw [show decide ((8 : Int) = 10) = false from rfl] | rw [show decide ((8 : Int) = 13) = false from rfl] | rw [show decide ((8 : Int) = 15) = false from rfl] | rw [show decide ((8 : Int) ≤ 6) = false from rfl] | rw [condP_false] | rw [boolIs_bool] | rw [beq_ff] | rw [Bool.not_false] | rw [w_pick_b] | rw [if_neg Bool.false_ne_true] | rw [w_fieldAddr_ptr] | rw [Nat.zero_add] | rw [w_load_c] | rw [vO_some] | rw [w_leq] | rw [w_eql] | unfold m_fieldfareref18_MayOpttttttth | unfold m_fieldfareref18_MayOpttttttthtb | unfold m_fieldfareref18_MayOpttttttthtbt | unfold m_fieldfareref18_MayOpttttttthtbtn | unfold m_fieldfareref18_MayOpttttttthtbtnt | unfold m_fieldfareref18_MayOpttttttthtbtntn | unfold m_fieldfareref18_MayOpttttttthtbtntnt)
    exact fin _ _ _ _ (by repeat (first | exact Ext.refl _ _ | refine Ext.put ?_ (.inr (by simp)) _)) (get_put_same _ _) (by
      clear fin pA key hK g3 g5 g6 l11 x1 x5 h
      obtain ⟨kind, col, name, id, dim, metric, index, vec, pay, k, draw⟩ := o
      simp only at c
      subst c
      unfold bareV condV
      repeat (first | unfold OpV.s10 | unfold OpV.s9 | unfold OpV.s8 | unfold OpV.s7 | unfold OpV.s6 | unfold OpV.s5 | unfold OpV.s4 | unfold OpV.s3 | unfold OpV.s2 | unfold OpV.s1 | unfold OpV.s0 | unfold OpV.zero)
      simp [eq_comm (a := (0 : Int))]
      all_goals (first | (constructor <;> (intro q; simp_all; done)) | (intro q; constructor <;> (intro q'; simp_all))))
  · repeat (first | rw [outP_val] | rw [guardP_true] | rw [g6] | rw [pA] | rw [op_f0] | rw [c] | rw [show decide ((9 : Int) = 1) = false from rfl] | rw [show decide ((9 : Int) = 3) = false from rfl] | rw [show decide ((9 : Int) = 4) = false from rfl] | rw [show decide ((9 : Int) = 12) = false from rfl] | rw [show decide ((9 : Int) = 5) = false from rfl] | rw [show decide ((9 : Int) = 6) = false from rfl] | rw [show decide ((9 : Int) = 10) = false from rfl] | rw [show decide ((9 : Int) = 13) = false from rfl] | rw [show decide ((9 : Int) = 15) = false from rfl] | rw [show decide ((9 : Int) ≤ 6) = false from rfl] | rw [condP_false] | rw [boolIs_bool] | rw [beq_ff] | rw [Bool.not_false] | rw [w_pick_b] | rw [if_neg Bool.false_ne_true] | rw [w_fieldAddr_ptr] | rw [Nat.zero_add] | rw [w_load_c] | rw [vO_some] | rw [w_leq] | rw [w_eql] | unfold m_fieldfareref18_MayOpttttttth | unfold m_fieldfareref18_MayOpttttttthtb | unfold m_fieldfareref18_MayOpttttttthtbt | unfold m_fieldfareref18_MayOpttttttthtbtn | unfold m_fieldfareref18_MayOpttttttthtbtnt | unfold m_fieldfareref18_MayOpttttttthtbtntn | unfold m_fieldfareref18_MayOpttttttthtbtntnt)
    exact fin _ _ _ _ (by repeat (first | exact Ext.refl _ _ | refine Ext.put ?_ (.inr (by simp)) _)) (get_put_same _ _) (by
      clear fin pA key hK g3 g5 g6 l11 x1 x5 h
      obtain ⟨kind, col, name, id, dim, metric, index, vec, pay, k, draw⟩ := o
      simp only at c
      subst c
      unfold bareV condV
      repeat (first | unfold OpV.s10 | unfold OpV.s9 | unfold OpV.s8 | unfold OpV.s7 | unfold OpV.s6 | unfold OpV.s5 | unfold OpV.s4 | unfold OpV.s3 | unfold OpV.s2 | unfold OpV.s1 | unfold OpV.s0 | unfold OpV.zero)
      simp [eq_comm (a := (0 : Int))]
      all_goals (first | (constructor <;> (intro q; simp_all; done)) | (intro q; constructor <;> (intro q'; simp_all))))
  · repeat (first | rw [outP_val] | rw [guardP_true] | rw [condP_true] | rw [g6] | rw [pA] | rw [get_put_same] | rw [op_f0] | rw [c] | rw [show decide ((10 : Int) = 1) = false from rfl] | rw [show decide ((10 : Int) = 3) = false from rfl] | rw [show decide ((10 : Int) = 4) = false from rfl] | rw [show decide ((10 : Int) = 12) = false from rfl] | rw [show decide ((10 : Int) = 5) = false from rfl] | rw [show decide ((10 : Int) = 6) = false from rfl] | rw [show decide ((10 : Int) = 10) = true from rfl] | rw [show decide ((10 : Int) = 13) = false from rfl] | rw [show decide ((10 : Int) = 15) = false from rfl] | rw [show decide ((10 : Int) ≤ 6) = false from rfl] | rw [op_s10] | rw [condP_false] | rw [boolIs_bool] | rw [beq_ff] | rw [Bool.not_false] | rw [outP_skip] | rw [w_pick_b] | rw [if_neg Bool.false_ne_true] | rw [w_fieldAddr_ptr] | rw [Nat.zero_add] | rw [w_load_c] | rw [vO_some] | rw [w_store_c] | rw [w_leq] | rw [w_eql] | unfold m_fieldfareref18_MayOpttttttth | unfold m_fieldfareref18_MayOpttttttthtb | unfold m_fieldfareref18_MayOpttttttthtbt | unfold m_fieldfareref18_MayOpttttttthtbtn | unfold m_fieldfareref18_MayOpttttttthtbtnt | unfold m_fieldfareref18_MayOpttttttthtbtntn | unfold m_fieldfareref18_MayOpttttttthtbtntnt)
    exact fin _ _ _ _ (by repeat (first | exact Ext.refl _ _ | refine Ext.put ?_ (.inr (by simp)) _)) (get_put_same _ _) (by
      clear fin pA key hK g3 g5 g6 l11 x1 x5 h
      obtain ⟨kind, col, name, id, dim, metric, index, vec, pay, k, draw⟩ := o
      simp only at c
      subst c
      unfold bareV condV
      repeat (first | unfold OpV.s10 | unfold OpV.s9 | unfold OpV.s8 | unfold OpV.s7 | unfold OpV.s6 | unfold OpV.s5 | unfold OpV.s4 | unfold OpV.s3 | unfold OpV.s2 | unfold OpV.s1 | unfold OpV.s0 | unfold OpV.zero)
      simp [eq_comm (a := (0 : Int))]
      all_goals (first | (constructor <;> (intro q; simp_all; done)) | (intro q; constructor <;> (intro q'; simp_all))))
  · repeat (first | rw [outP_val] | rw [guardP_true] | rw [g6] | rw [pA] | rw [op_f0] | rw [c] | rw [show decide ((11 : Int) = 1) = false from rfl] | rw [show decide ((11 : Int) = 3) = false from rfl] | rw [show decide ((11 : Int) = 4) = false from rfl] | rw [show decide ((11 : Int) = 12) = false from rfl] | rw [show decide ((11 : Int) = 5) = false from rfl] | rw [show decide ((11 : Int) = 6) = false from rfl] | rw [show decide ((11 : Int) = 10) = false from rfl] | rw [show decide ((11 : Int) = 13) = false from rfl] | rw [show decide ((11 : Int) = 15) = false from rfl] | rw [show decide ((11 : Int) ≤ 6) = false from rfl] | rw [condP_false] | rw [boolIs_bool] | rw [beq_ff] | rw [Bool.not_false] | rw [w_pick_b] | rw [if_neg Bool.false_ne_true] | rw [w_fieldAddr_ptr] | rw [Nat.zero_add] | rw [w_load_c] | rw [vO_some] | rw [w_leq] | rw [w_eql] | unfold m_fieldfareref18_MayOpttttttth | unfold m_fieldfareref18_MayOpttttttthtb | unfold m_fieldfareref18_MayOpttttttthtbt | unfold m_fieldfareref18_MayOpttttttthtbtn | unfold m_fieldfareref18_MayOpttttttthtbtnt | unfold m_fieldfareref18_MayOpttttttthtbtntn | unfold m_fieldfareref18_MayOpttttttthtbtntnt)
    exact fin _ _ _ _ (by repeat (first | exact Ext.refl _ _ | refine Ext.put ?_ (.inr (by simp)) _)) (get_put_same _ _) (by
      clear fin pA key hK g3 g5 g6 l11 x1 x5 h
      obtain ⟨kind, col, name, id, dim, metric, index, vec, pay, k, draw⟩ := o
      simp only at c
      subst c
      unfold bareV condV
      repeat (first | unfold OpV.s10 | unfold OpV.s9 | unfold OpV.s8 | unfold OpV.s7 | unfold OpV.s6 | unfold OpV.s5 | unfold OpV.s4 | unfold OpV.s3 | unfold OpV.s2 | unfold OpV.s1 | unfold OpV.s0 | unfold OpV.zero)
      simp [eq_comm (a := (0 : Int))]
      all_goals (first | (constructor <;> (intro q; simp_all; done)) | (intro q; constructor <;> (intro q'; simp_all))))
  · repeat (first | rw [outP_val] | rw [guardP_true] | rw [guardP_false] | rw [condP_true] | rw [g6] | rw [pA] | rw [get_put_same] | rw [op_f0] | rw [c] | rw [show decide ((12 : Int) = 1) = false from rfl] | rw [show decide ((12 : Int) = 3) = false from rfl] | rw [show decide ((12 : Int) = 4) = false from rfl] | rw [show decide ((12 : Int) = 12) = true from rfl] | rw [show decide ((12 : Int) ≤ 6) = false from rfl] | rw [op_s1] | rw [op_s3] | rw [condP_false] | rw [boolIs_bool] | rw [beq_ff] | rw [Bool.not_true] | rw [Bool.not_false] | rw [outP_skip] | rw [w_pick_b] | rw [if_pos rfl] | rw [if_neg Bool.false_ne_true] | rw [w_fieldAddr_ptr] | rw [Nat.zero_add] | rw [w_load_c] | rw [vO_some] | rw [w_store_c] | rw [w_leq] | rw [w_eql] | unfold m_fieldfareref18_MayOpttttttth | unfold m_fieldfareref18_MayOpttttttthtb | unfold m_fieldfareref18_MayOpttttttthtbt | unfold m_fieldfareref18_MayOpttttttthtbtn | unfold m_fieldfareref18_MayOpttttttthtbtnt | unfold m_fieldfareref18_MayOpttttttthtbtntn | unfold m_fieldfareref18_MayOpttttttthtbtntnt)
    exact fin _ _ _ _ (by repeat (first | exact Ext.refl _ _ | refine Ext.put ?_ (.inr (by simp)) _)) (get_put_same _ _) (by
      clear fin pA key hK g3 g5 g6 l11 x1 x5 h
      obtain ⟨kind, col, name, id, dim, metric, index, vec, pay, k, draw⟩ := o
      simp only at c
      subst c
      unfold bareV condV
      repeat (first | unfold OpV.s10 | unfold OpV.s9 | unfold OpV.s8 | unfold OpV.s7 | unfold OpV.s6 | unfold OpV.s5 | unfold OpV.s4 | unfold OpV.s3 | unfold OpV.s2 | unfold OpV.s1 | unfold OpV.s0 | unfold OpV.zero)
      simp [eq_comm (a := (0 : Int))]
      all_goals (first | (constructor <;> (intro q; simp_all; done)) | (intro q; constructor <;> (intro q'; simp_all))))
  · repeat (first | rw [outP_val] | rw [guardP_true] | rw [guardP_false] | rw [condP_true] | rw [g6] | rw [pA] | rw [get_put_same] | rw [op_f0] | rw [c] | rw [show decide ((13 : Int) = 1) = false from rfl] | rw [show decide ((13 : Int) = 3) = false from rfl] | rw [show decide ((13 : Int) = 4) = false from rfl] | rw [show decide ((13 : Int) = 12) = false from rfl] | rw [show decide ((13 : Int) = 5) = false from rfl] | rw [show decide ((13 : Int) = 6) = false from rfl] | rw [show decide ((13 : Int) = 10) = false from rfl] | rw [show decide ((13 : Int) = 13) = true from rfl] | rw [show decide ((13 : Int) ≤ 6) = false from rfl] | rw [op_s1] | rw [op_s9] | rw [condP_false] | rw [boolIs_bool] | rw [beq_ff] | rw [Bool.not_true] | rw [Bool.not_false] | rw [outP_skip] | rw [w_pick_b] | rw [if_pos rfl] | rw [if_neg Bool.false_ne_true] | rw [w_fieldAddr_ptr] | rw [Nat.zero_add] | rw [w_load_c] | rw [vO_some] | rw [w_store_c] | rw [w_leq] | rw [w_eql] | unfold m_fieldfareref18_MayOpttttttth | unfold m_fieldfareref18_MayOpttttttthtb | unfold m_fieldfareref18_MayOpttttttthtbt | unfold m_fieldfareref18_MayOpttttttthtbtn | unfold m_fieldfareref18_MayOpttttttthtbtnt | unfold m_fieldfareref18_MayOpttttttthtbtntn | unfold m_fieldfareref18_MayOpttttttthtbtntnt)
    exact fin _ _ _ _ (by repeat (first | exact Ext.refl _ _ | refine Ext.put ?_ (.inr (by simp)) _)) (get_put_same _ _) (by
      clear fin pA key hK g3 g5 g6 l11 x1 x5 h
      obtain ⟨kind, col, name, id, dim, metric, index, vec, pay, k, draw⟩ := o
      simp only at c
      subst c
      unfold bareV condV
      repeat (first | unfold OpV.s10 | unfold OpV.s9 | unfold OpV.s8 | unfold OpV.s7 | unfold OpV.s6 | unfold OpV.s5 | unfold OpV.s4 | unfold OpV.s3 | unfold OpV.s2 | unfold OpV.s1 | unfold OpV.s0 | unfold OpV.zero)
      simp [eq_comm (a := (0 : Int))]
      all_goals (first | (constructor <;> (intro q; simp_all; done)) | (intro q; constructor <;> (intro q'; simp_all))))
  · repeat (first | rw [outP_val] | rw [guardP_true] | rw [g6] | rw [pA] | rw [op_f0] | rw [c] | rw [show decide ((14 : Int) = 1) = false from rfl] | rw [show decide ((14 : Int) = 3) = false from rfl] | rw [show decide ((14 : Int) = 4) = false from rfl] | rw [show decide ((14 : Int) = 12) = false from rfl] | rw [show decide ((14 : Int) = 5) = false from rfl] | rw [show decide ((14 : Int) = 6) = false from rfl] | rw [show decide ((14 : Int) = 10) = false from rfl] | rw [show decide ((14 : Int) = 13) = false from rfl] | rw [show decide ((14 : Int) = 15) = false from rfl] | rw [show decide ((14 : Int) ≤ 6) = false from rfl] | rw [condP_false] | rw [boolIs_bool] | rw [beq_ff] | rw [Bool.not_false] | rw [w_pick_b] | rw [if_neg Bool.false_ne_true] | rw [w_fieldAddr_ptr] | rw [Nat.zero_add] | rw [w_load_c] | rw [vO_some] | rw [w_leq] | rw [w_eql] | unfold m_fieldfareref18_MayOpttttttth | unfold m_fieldfareref18_MayOpttttttthtb | unfold m_fieldfareref18_MayOpttttttthtbt | unfold m_fieldfareref18_MayOpttttttthtbtn | unfold m_fieldfareref18_MayOpttttttthtbtnt | unfold m_fieldfareref18_MayOpttttttthtbtntn | unfold m_fieldfareref18_MayOpttttttthtbtntnt)
    exact fin _ _ _ _ (by repeat (first | exact Ext.refl _ _ | refine Ext.put ?_ (.inr (by simp)) _)) (get_put_same _ _) (by
      clear fin pA key hK g3 g5 g6 l11 x1 x5 h
      obtain ⟨kind, col, name, id, dim, metric, index, vec, pay, k, draw⟩ := o
      simp only at c
      subst c
      unfold bareV condV
      repeat (first | unfold OpV.s10 | unfold OpV.s9 | unfold OpV.s8 | unfold OpV.s7 | unfold OpV.s6 | unfold OpV.s5 | unfold OpV.s4 | unfold OpV.s3 | unfold OpV.s2 | unfold OpV.s1 | unfold OpV.s0 | unfold OpV.zero)
      simp [eq_comm (a := (0 : Int))]
      all_goals (first | (constructor <;> (intro q; simp_all; done)) | (intro q; constructor <;> (intro q'; simp_all))))
  · repeat (first | rw [outP_val] | rw [guardP_true] | rw [condP_true] | rw [g6] | rw [pA] | rw [get_put_same] | rw [op_f0] | rw [c] | rw [show decide ((15 : Int) = 1) = false from rfl] | rw [show decide ((15 : Int) = 3) = false from rfl] | rw [show decide ((15 : Int) = 4) = false from rfl] | rw [show decide ((15 : Int) = 12) = false from rfl] | rw [show decide ((15 : Int) = 5) = false from rfl] | rw [show decide ((15 : Int) = 6) = false from rfl] | rw [show decide ((15 : Int) = 10) = false from rfl] | rw [show decide ((15 : Int) = 13) = false from rfl] | rw [show decide ((15 : Int) = 15) = true from rfl] | rw [show decide ((15 : Int) ≤ 6) = false from rfl] | rw [op_s1] | rw [condP_false] | rw [boolIs_bool] | rw [beq_ff] | rw [Bool.not_false] | rw [outP_skip] | rw [w_pick_b] | rw [if_neg Bool.false_ne_true] | rw [w_fieldAddr_ptr] | rw [Nat.zero_add] | rw [w_load_c] | rw [vO_some] | rw [w_store_c] | rw [w_leq] | rw [w_eql] | unfold m_fieldfareref18_MayOpttttttth | unfold m_fieldfareref18_MayOpttttttthtb | unfold m_fieldfareref18_MayOpttttttthtbt | unfold m_fieldfareref18_MayOpttttttthtbtn | unfold m_fieldfareref18_MayOpttttttthtbtnt | unfold m_fieldfareref18_MayOpttttttthtbtntn | unfold m_fieldfareref18_MayOpttttttthtbtntnt)
    exact fin _ _ _ _ (by repeat (first | exact Ext.refl _ _ | refine Ext.put ?_ (.inr (by simp)) _)) (get_put_same _ _) (by
      clear fin pA key hK g3 g5 g6 l11 x1 x5 h
      obtain ⟨kind, col, name, id, dim, metric, index, vec, pay, k, draw⟩ := o
      simp only at c
      subst c
      unfold bareV condV
      repeat (first | unfold OpV.s10 | unfold OpV.s9 | unfold OpV.s8 | unfold OpV.s7 | unfold OpV.s6 | unfold OpV.s5 | unfold OpV.s4 | unfold OpV.s3 | unfold OpV.s2 | unfold OpV.s1 | unfold OpV.s0 | unfold OpV.zero)
      simp [eq_comm (a := (0 : Int))]
      all_goals (first | (constructor <;> (intro q; simp_all; done)) | (intro q; constructor <;> (intro q'; simp_all))))
end
end Go.Ab
