/- Operations that may be; errors; written. -/
import Derived.Test.YtcehnjmpllhieaaGreatDoorReqB
namespace Go.Ab
noncomputable section
open Go.Proofs
set_option maxRecDepth 10000
variable {H H' : AH}

/-! Errors. -/
/-- An error that says where: a number is in it. -/
def ErrX (H : AH) (e : AV) (n : Int) : Prop := ∃ b w, e = .iface 235 (.ptr (some (b, 0))) ∧ H.get b = some (.cells 237 [.str w, .iface 34 (.int .i64 n)]) ∧ b < H.next
theorem ErrX.mono {e : AV} {n : Int} (h : ErrX H e n) (x : Ext [] H H') : ErrX H' e n := by
  obtain ⟨b, w, h1, h2, h3⟩ := h
  exact ⟨b, w, h1, x.get h3 (by simp) h2, Nat.lt_of_lt_of_le h3 x.next⟩
theorem err_nil1 (n : Int) : w_eq PP .eql 30 false true H (.iface 34 (.int .i64 n)) .nilIface = some (.val (.bool false) H) := by kernel_rfl
theorem err_ok (n : Int) : w_eq PP .eql 30 false false H (.iface 34 (.int .i64 n)) (.iface 34 (.int .i64 0)) = some (.val (.bool (eqZ n 0)) H) := by kernel_rfl
theorem at_build (w : List UInt8) (n : Int) : w_build PP 237 H [(0, .str w), (1, .iface 34 (.int .i64 n))] = some (.val (.agg [.str w, .iface 34 (.int .i64 n)]) H) := by kernel_rfl
theorem at_wp (n : Int) (hn : n ≠ 0) (K : AV → AH → Prop) (hK : ∀ H' e, Ext [] H H' → ErrX H' e n → K e H') : CC.call 41 [.int .i64 n] H K := by
  refine m_req_at_ok _ _ _ ?_
  unfold m_req_at
  rw [outP_val, outP_enter]
  refine m_fail_At_ok _ _ _ _ ?_
  unfold m_fail_At
  have z : eqZ n 0 = false := by rw [eqZ_eq]; simpa using hn
  repeat (first | rw [outP_val] | rw [guardP_true] | rw [err_nil1] | rw [err_ok] | rw [z] | rw [condP_false] | rw [boolIs_bool] | rw [beq_ff] | rw [Bool.not_false] | rw [w_pick_b] | rw [if_neg Bool.false_ne_true])
  rw [at_build, outP_val, w_box_one (by rfl), outP_val, outP_val]
  exact hK _ _ ((Ext.refl _ _).new _) ⟨H.next, _, rfl, get_new_same _ _, by rw [next_new]; omega⟩

/-! A row of numbers. -/
theorem int_el : elT PP 3 = some (1, [.int .i64 0]) := by kernel_rfl
theorem ints_slQ : PP.underlying 69 = some (.slice 3) := by kernel_rfl
theorem bs_5 (a b c d e : Int) : w_buildSlice PP 3 5 H [(0, .int .i64 a), (1, .int .i64 b), (2, .int .i64 c), (3, .int .i64 d), (4, .int .i64 e)] none = some (.val (.slice (some (H.next, 0)) 5 5 true) (H.new (.cells 3 [.int .i64 a, .int .i64 b, .int .i64 c, .int .i64 d, .int .i64 e]))) := by
  have h1 : Nat.ble (5 * 1) 16777216 = true := rfl
  have h2 : fillA (fun i => some (i * 1, 1)) [(0, .int .i64 a), (1, .int .i64 b), (2, .int .i64 c), (3, .int .i64 d), (4, .int .i64 e)] (reps 5 [AV.int .i64 0]) = some [.int .i64 a, .int .i64 b, .int .i64 c, .int .i64 d, .int .i64 e] := rfl
  have h3 : allB (fun x : Nat × AV => allB AV.one x.2.parts) [(0, .int .i64 a), (1, .int .i64 b), (2, .int .i64 c), (3, .int .i64 d), (4, .int .i64 e)] = true := rfl
  simp only [w_buildSlice, oBuildSlice, int_el, h1, h2, h3, br_true, val_mk, ob_some, newSlice, newTo_none_eq]
theorem os_5 (a b c d e : Int) : Os 3 .i64 (H.new (.cells 3 [.int .i64 a, .int .i64 b, .int .i64 c, .int .i64 d, .int .i64 e])) H.next (.slice (some (H.next, 0)) 5 5 true) [a, b, c, d, e] :=
  ⟨.inr ⟨0, 5, true, _, rfl, get_new_same _ _, Nat.le_refl _, Nat.le_refl _, fun q => (by cases q), rfl, by rw [next_new]; omega⟩, by simp, by simp [AV.known], by simp [AV.one]⟩
theorem bs_3 {t : TypeId} (ht : elT PP t = some (1, [.int .i64 0])) (a b c : Int) : w_buildSlice PP t 3 H [(0, .int .i64 a), (1, .int .i64 b), (2, .int .i64 c)] none = some (.val (.slice (some (H.next, 0)) 3 3 true) (H.new (.cells t [.int .i64 a, .int .i64 b, .int .i64 c]))) := by
  have h1 : Nat.ble (3 * 1) 16777216 = true := rfl
  have h2 : fillA (fun i => some (i * 1, 1)) [(0, .int .i64 a), (1, .int .i64 b), (2, .int .i64 c)] (reps 3 [AV.int .i64 0]) = some [.int .i64 a, .int .i64 b, .int .i64 c] := rfl
  have h3 : allB (fun x : Nat × AV => allB AV.one x.2.parts) [(0, .int .i64 a), (1, .int .i64 b), (2, .int .i64 c)] = true := rfl
  simp only [w_buildSlice, oBuildSlice, ht, h1, h2, h3, br_true, val_mk, ob_some, newSlice, newTo_none_eq]
theorem os_3 (t : TypeId) (a b c : Int) : Os t .i64 (H.new (.cells t [.int .i64 a, .int .i64 b, .int .i64 c])) H.next (.slice (some (H.next, 0)) 3 3 true) [a, b, c] :=
  ⟨.inr ⟨0, 3, true, _, rfl, get_new_same _ _, Nat.le_refl _, Nat.le_refl _, fun q => (by cases q), rfl, by rw [next_new]; omega⟩, by simp, by simp [AV.known], by simp [AV.one]⟩
theorem wThree_wp {M : List Nat} {H0 : AH} {wp : Nat} {L : List Int} {a b c : Int} (h : Wx M H0 H wp L) (hL : L.length ≤ 10000) (ha : I64 a) (hb : I64 b) (hc : I64 c) (K : AV → AH → Prop) (hK : ∀ H', Wx M H0 H' wp (L ++ (encZ a ++ encZ b ++ encZ c)) → K (.tup []) H') :
    outP CC H (w_buildSlice PP 2 3 H [(0, .int .i64 a), (1, .int .i64 b), (2, .int .i64 c)] none) fun v G => outP CC G (some (.enter 42 [.ptr (some (wp, 0)), v])) K := by
  rw [bs_3 i64_el, outP_val, outP_enter]
  have x1 : Ext [] H (H.new (.cells 2 [.int .i64 a, .int .i64 b, .int .i64 c])) := (Ext.refl _ _).new _
  have hlt := h.lt
  refine wInt_wp (N := [a, b, c]) (h.mono x1) hL (os_3 2 a b c).is (fun y hy => by
    simp only [List.mem_cons, List.not_mem_nil, or_false] at hy
    rcases hy with rfl | rfl | rfl
    · exact ha
    · exact hb
    · exact hc) (by simp) (by omega) (fun o k c x q => ?_) (by rw [next_new]; omega) K fun H' w' => hK H' (by simpa using w')
  rw [get_new_ne _ (by omega)] at q
  exact h.notNew q

/-! May it be? -/
set_option maxHeartbeats 1000000 in
theorem may_wp {b : Nat} {v : AV} (o : OpV) (h : VecF H b v o.vec) (K : AV → AH → Prop) (hK : ∀ H' r, Ext [] H H' → (r = true ↔ MayV o) → K (.bool r) H') : CC.call 10 [opA o v] H K := by
  refine m_req_May_ok _ _ _ ?_
  unfold m_req_May
  obtain ⟨f1, f2, f3⟩ := slk_facts h.slk
  rw [op_box o f1, outP_val]
  have x1 : Ext [] H (H.new (.cells 26 (opC o v))) := (Ext.refl _ _).new _
  have g1 := get_new_same H (.cells 26 (opC o v))
  have nx : H.next < (H.new (.cells 26 (opC o v))).next := by rw [next_new]; omega
  generalize H.new (.cells 26 (opC o v)) = G at *
  have l11 := ld11 26 (op_len o v) (op_known o f3)
  unfold m_req_Mayt
  rw [w_fieldAddr_ptr, outP_val, w_load_c, Nat.zero_add, g1, op_f0, vO_some, outP_val, outP_enter]
  refine is_wp _ _ ?_
  have bad : ∀ G', Ext [] H G' → ¬ MayV o → K (.bool false) G' := fun G' x q => hK G' false x ⟨fun r => (by cases r), fun r => absurd r q⟩
  by_cases c0 : 1 ≤ o.kind ∧ o.kind ≤ 15
  case neg =>
    rw [show (decide (1 ≤ o.kind) && decide (o.kind ≤ 15)) = false by rw [← Bool.not_eq_true, Bool.and_eq_true, decide_eq_true_eq, decide_eq_true_eq]; exact c0]
    repeat (first | rw [outP_val] | rw [guardP_false] | rw [condP_true] | rw [boolIs_bool] | rw [beq_ff] | rw [Bool.not_true] | rw [Bool.not_false] | rw [w_pick_b] | rw [if_pos rfl] | rw [w_load_n] | rw [w_not])
    exact bad _ x1 fun q => c0 ⟨q.1, q.2.1⟩
  rw [show (decide (1 ≤ o.kind) && decide (o.kind ≤ 15)) = true by rw [Bool.and_eq_true, decide_eq_true_eq, decide_eq_true_eq]; exact c0]
  repeat (first | rw [outP_val] | rw [guardP_true] | rw [g1] | rw [l11] | rw [boolIs_bool] | rw [beq_ff] | rw [Bool.not_true] | rw [Bool.not_false] | rw [w_load_n] | rw [vO_some] | rw [w_not])
  rw [outP_enter]
  refine bare_wp o (h.mono x1) _ fun G2 v2 x2 h2 => ?_
  have g2 : G2.get H.next = _ := x2.get nx (by simp) g1
  repeat (first | rw [guardP_true] | rw [g2] | rw [l11] | rw [reC_val] | rw [beq_op o h.slk] | rw [ckP_true] | rw [w_load_n] | rw [vO_some])
  rw [outP_enter]
  refine same_wp o (bareV o) (h.mono (x1.trans x2)) h2 _ fun G3 x3 => ?_
  have g3 : G3.get H.next = _ := x3.get (Nat.lt_of_lt_of_le nx x2.next) (by simp) g2
  have x13 := (x1.trans x2).trans x3
  by_cases c1 : eqV o (bareV o) = true
  case neg =>
    rw [Bool.eq_false_iff.2 c1]
    repeat (first | rw [outP_val] | rw [guardP_true] | rw [guardP_false] | rw [condP_true] | rw [boolIs_bool] | rw [beq_ff] | rw [Bool.not_true] | rw [Bool.not_false] | rw [w_pick_b] | rw [if_pos rfl] | rw [if_neg Bool.false_ne_true] | rw [w_not])
    exact bad _ x13 fun q => c1 ((eqV_iff _ _).2 q.2.2.1.symm)
  rw [c1]
  have c1 := (eqV_iff _ _).1 c1
  have lv := ((h.mono x13).is).len vec_sl
  repeat (first | rw [outP_val] | rw [guardP_true] | rw [g3] | rw [op_f1] | rw [len_str] | rw [boolIs_bool] | rw [beq_ff] | rw [Bool.not_true] | rw [Bool.not_false] | rw [w_pick_b] | rw [if_neg Bool.false_ne_true] | rw [w_fieldAddr_ptr] | rw [Nat.zero_add] | rw [w_load_c] | rw [vO_some] | rw [w_not] | rw [w_gtr])
  by_cases c2 : (12 : Int) < (o.col.length : Int)
  case pos =>
    rw [decide_eq_true c2]
    repeat (first | rw [outP_val] | rw [guardP_false] | rw [condP_true] | rw [boolIs_bool] | rw [beq_ff] | rw [Bool.not_true] | rw [w_pick_b] | rw [if_pos rfl])
    exact bad _ x13 fun q => by have := q.2.2.2.1; omega
  rw [decide_eq_false c2]
  repeat (first | rw [outP_val] | rw [guardP_true] | rw [g3] | rw [op_f2] | rw [len_str] | rw [boolIs_bool] | rw [beq_ff] | rw [Bool.not_false] | rw [w_pick_b] | rw [if_neg Bool.false_ne_true] | rw [w_fieldAddr_ptr] | rw [Nat.zero_add] | rw [w_load_c] | rw [vO_some] | rw [w_gtr])
  by_cases c3 : (12 : Int) < (o.name.length : Int)
  case pos =>
    rw [decide_eq_true c3]
    repeat (first | rw [outP_val] | rw [guardP_false] | rw [condP_true] | rw [boolIs_bool] | rw [beq_ff] | rw [Bool.not_true] | rw [w_pick_b] | rw [if_pos rfl])
    exact bad _ x13 fun q => by have := q.2.2.2.2.1; omega
  rw [decide_eq_false c3]
  repeat (first | rw [outP_val] | rw [guardP_true] | rw [g3] | rw [op_f7 _ _ f2] | rw [lv] | rw [boolIs_bool] | rw [beq_ff] | rw [Bool.not_false] | rw [w_pick_b] | rw [if_neg Bool.false_ne_true] | rw [w_fieldAddr_ptr] | rw [Nat.zero_add] | rw [w_load_c] | rw [vO_some] | rw [w_gtr])
  by_cases c4 : (8 : Int) < (o.vec.length : Int)
  case pos =>
    rw [decide_eq_true c4]
    repeat (first | rw [outP_val] | rw [guardP_false] | rw [condP_true] | rw [Bool.not_true] | rw [w_pick_b] | rw [if_pos rfl])
    exact bad _ x13 fun q => by have := q.2.2.2.2.2.1; omega
  rw [decide_eq_false c4]
  repeat (first | rw [outP_val] | rw [guardP_true] | rw [g3] | rw [op_f8] | rw [len_str] | rw [Bool.not_false] | rw [w_pick_b] | rw [if_neg Bool.false_ne_true] | rw [w_load_c] | rw [vO_some] | rw [w_gtr])
  by_cases c5 : (40 : Int) < (o.pay.length : Int)
  case pos =>
    rw [decide_eq_true c5]
    repeat rw [condP_true]
    exact bad _ x13 fun q => by have := q.2.2.2.2.2.2.1; omega
  rw [decide_eq_false c5]
  repeat rw [condP_false]
  unfold m_req_Maytth
  repeat (first | rw [outP_val] | rw [g3] | rw [op_f3] | rw [op_f4] | rw [op_f5] | rw [op_f6] | rw [op_f9] | rw [w_fieldAddr_ptr] | rw [Nat.zero_add] | rw [w_load_c] | rw [vO_some])
  rw [bs_5, outP_val]
  have is5 := (os_5 (H := G3) o.id o.dim o.metric o.index o.k).is
  have x4 : Ext [] H (G3.new (.cells 3 [.int .i64 o.id, .int .i64 o.dim, .int .i64 o.metric, .int .i64 o.index, .int .i64 o.k])) := x13.new _
  generalize G3.new (.cells 3 [.int .i64 o.id, .int .i64 o.dim, .int .i64 o.metric, .int .i64 o.index, .int .i64 o.k]) = G4 at *
  have key : MayV o ↔ ∀ x ∈ [o.id, o.dim, o.metric, o.index, o.k], inM x := by
    simp only [List.mem_cons, List.not_mem_nil, or_false, forall_eq_or_imp, forall_eq]
    unfold MayV
    constructor
    · rintro ⟨_, _, _, _, _, _, _, q⟩; exact q
    · exact fun q => ⟨c0.1, c0.2, c1.symm, by omega, by omega, by omega, by omega, q⟩
  generalize hL : [o.id, o.dim, o.metric, o.index, o.k] = L at *
  have hLl : L.length = 5 := by rw [← hL]; rfl
  rw [is5.len ints_slQ, outP_val]
  unfold m_req_Maytthtb
  refine loopP_rule (I := fun t G => ∃ j : Nat, t = (.slice (some (G3.next, 0)) 5 5 true, .int .i64 L.length, .int .i64 j) ∧ j ≤ L.length ∧ G = G4 ∧ ∀ x ∈ L.take j, inM x) (μ := fun t _ => match t.2.2 with | .int _ z => L.length - z.toNat | _ => 0) ?_ ⟨0, rfl, Nat.zero_le _, rfl, fun x hx => by simp at hx⟩
  rintro t G' ⟨j, rfl, hj, rfl, hin⟩ rec hrec
  unfold m_req_Maytthtbl
  rw [w_lss, outP_val]
  by_cases cj : j < L.length
  · obtain ⟨p, a1, a2, a3⟩ := is5.at cj
    rw [decide_eq_true (by omega), condP_true, a1, outP_val, w_load_c, a3, vO_some, outP_val]
    have mem := List.getElem_mem cj
    by_cases d1 : L[j] < 0
    · have e1 := decide_eq_true d1
      repeat (first | rw [outP_val] | rw [guardP_false] | rw [condP_true] | rw [e1] | rw [boolIs_bool] | rw [beq_ff] | rw [Bool.not_true] | rw [w_pick_b] | rw [if_pos rfl] | rw [w_lss])
      exact bad _ x4 fun q => by have := key.1 q _ mem; omega
    · have e1 := decide_eq_false d1
      by_cases d2 : 1000000 < L[j]
      · have e2 := decide_eq_true d2
        repeat (first | rw [outP_val] | rw [guardP_true] | rw [condP_true] | rw [e1] | rw [e2] | rw [boolIs_bool] | rw [beq_ff] | rw [Bool.not_false] | rw [w_pick_b] | rw [if_neg Bool.false_ne_true] | rw [w_lss] | rw [w_gtr])
        exact bad _ x4 fun q => by have := key.1 q _ mem; omega
      · have e2 := decide_eq_false d2
        repeat (first | rw [outP_val] | rw [guardP_true] | rw [e1] | rw [e2] | rw [condP_false] | rw [boolIs_bool] | rw [beq_ff] | rw [Bool.not_false] | rw [w_pick_b] | rw [if_neg Bool.false_ne_true] | rw [w_lss] | rw [w_gtr] | rw [w_add_in (by omega) (by omega)])
        refine hrec _ _ ⟨j + 1, by rfl, by omega, rfl, fun x hx => ?_⟩ ?_
        · rw [List.take_succ_eq_append_getElem cj] at hx
          rcases List.mem_append.1 hx with q | q
          · exact hin x q
          · rw [List.mem_singleton.1 q]; exact ⟨by omega, by omega⟩
        · show L.length - ((j : Int) + 1).toNat < L.length - (j : Int).toNat
          omega
  · rw [decide_eq_false (by omega), condP_false]
    rw [List.take_of_length_le (by omega)] at hin
    exact hK _ true x4 ⟨fun _ => key.2 hin, fun _ => rfl⟩
end
end Go.Ab
