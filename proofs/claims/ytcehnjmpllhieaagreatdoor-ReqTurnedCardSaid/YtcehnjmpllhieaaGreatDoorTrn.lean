/- fieldfarelaw23.ReqTurned: what it does, at any input. -/
import Derived.Test.YtcehnjmpllhieaaGreatDoorUnl
import Derived.Test.YtcehnjmpllhieaaGreatDoorReqH
import Derived.Test.YtcehnjmpllhieaaGreatDoorR5
namespace Go.Ab
noncomputable section
open Go.Proofs
set_option maxRecDepth 10000
variable {H H' : AH}

def xorB (a b : Int) : Int := ((a.toNat ^^^ b.toNat : Nat) : Int)
theorem xor_lt {a b : Nat} (ha : a < 256) (hb : b < 256) : a ^^^ b < 256 := Nat.xor_lt_two_pow (n := 8) ha hb
theorem xorB_in {a b : Int} (ha : 0 ≤ a ∧ a ≤ 255) (hb : 0 ≤ b ∧ b ≤ 255) : 0 ≤ xorB a b ∧ xorB a b ≤ 255 := by
  unfold xorB
  have := xor_lt (a := a.toNat) (b := b.toNat) (by omega) (by omega)
  omega
theorem xorB_ne {a b : Int} (ha : 0 ≤ a) (hb : 0 ≤ b) (h : b ≠ 0) : xorB a b ≠ a := by
  unfold xorB
  intro q
  have q : a.toNat ^^^ b.toNat = a.toNat := by omega
  have q2 : a.toNat ^^^ (a.toNat ^^^ b.toNat) = a.toNat ^^^ a.toNat := by rw [q]
  rw [← Nat.xor_assoc, Nat.xor_self, Nat.zero_xor] at q2
  omega
theorem w_xor {a b : Int} (ha : 0 ≤ a ∧ a ≤ 255) (hb : 0 ≤ b ∧ b ≤ 255) : w_int .xor H (.int .u8 a) (.int .u8 b) = some (.val (.int .u8 (xorB a b)) H) := by
  rw [w_int_of rfl]
  have hx := xorB_in ha hb
  have e : ((BitVec.ofInt 8 a ^^^ BitVec.ofInt 8 b).toNat : Int) = xorB a b := by
    rw [BitVec.toNat_xor, BitVec.toNat_ofInt, BitVec.toNat_ofInt]
    unfold xorB
    rw [show (a % ((2 ^ 8 : Nat) : Int)) = a from Int.emod_eq_of_lt ha.1 (by show a < 256; omega), show (b % ((2 ^ 8 : Nat) : Int)) = b from Int.emod_eq_of_lt hb.1 (by show b < 256; omega)]
  show vO H (some (.int .u8 (IntKind.u8.wrap ((BitVec.ofInt 8 a ^^^ BitVec.ofInt 8 b).toNat : Int)))) = _
  rw [e, vO_some, wrap8_in hx.1 hx.2]
theorem zero_self : eqV OpV.zero OpV.zero = true := (eqV_iff _ _).2 rfl
theorem opText_pos (o : OpV) : 1 ≤ (opText o).length := by
  unfold opText
  rw [List.length_append, enc_len]; omega
set_option maxHeartbeats 1000000 in
theorem reqTurned_wp {b : Nat} {v : AV} (o : OpV) (at_ x : Int) (h : VecF H b v o.vec) (wf : WfV o) (hx : 0 ≤ x ∧ x ≤ 255) (hl : Laid2 H) (hlt : 1 < H.next) (K : AV → AH → Prop) (hK : ∀ H', Ext [] H H' → K (.bool true) H') :
    C25.call 5 [opA o v, .int .i64 at_, .int .u8 x] H K := by
  refine m_fieldfarelaw23_ReqTurned_ok _ _ _ _ _ ?_
  unfold m_fieldfarelaw23_ReqTurned
  obtain ⟨f1, f2, f3⟩ := slk_facts h.slk
  rw [op_box o f1, outP_val]
  have x1 : Ext [] H (H.new (.cells 26 (opC o v))) := (Ext.refl _ _).new _
  have g1 := get_new_same H (.cells 26 (opC o v))
  have nx : H.next < (H.new (.cells 26 (opC o v))).next := by rw [next_new]; omega
  generalize H.new (.cells 26 (opC o v)) = G at *
  have l11 := ld11 26 (op_len o v) (op_known o f3)
  have hl' : Laid2 G := ⟨by rw [x1.same 0 (by omega) (by simp)]; exact hl.h0, by rw [x1.same 1 hlt (by simp)]; exact hl.h1⟩
  have gA : ∀ {G' : AH}, Ext [] G G' → G'.get H.next = some (.cells 26 (opC o v)) := fun e => e.get nx (by simp) g1
  rw [outP_enter]
  refine begun25_wp hl' _ ?_
  rw [w_not, outP_val, Bool.not_true, condP_false, w_load_n, g1, l11, vO_some, outP_val, outP_enter]
  refine via_wp (by kernel_rfl) ?_
  refine reqPut_wp o (h.mono x1) wf _ (fun nm G2 e x2 he => ?_) fun m G2 s B x2 hB os => ?_
  · repeat (first | rw [outP_val] | rw [guardP_false] | rw [condP_true] | rw [ext0] | rw [ext1] | rw [err_neq he] | rw [err_eql he] | rw [gA x2] | rw [l11] | rw [boolIs_bool] | rw [beq_ff] | rw [Bool.not_true] | rw [w_pick_b] | rw [if_pos rfl] | rw [w_load_n] | rw [vO_some])
    rw [outP_enter]
    refine via_wp (by kernel_rfl) ?_
    refine mayOp_wp o (h.mono (x1.trans x2)) _ fun G3 r x3 hr => ?_
    have r1 : r = false := Bool.eq_false_iff.2 fun w => nm (hr.1 w)
    rw [bool_eql, outP_val, r1]
    exact hK _ ((x1.trans x2).trans x3)
  by_cases cx : x = 0
  · have d := decide_eq_true cx
    repeat (first | rw [outP_val] | rw [guardP_true] | rw [condP_true] | rw [ext0] | rw [ext1] | rw [nil_neq] | rw [nil_eql] | rw [d] | rw [gA x2] | rw [l11] | rw [boolIs_bool] | rw [beq_ff] | rw [Bool.not_false] | rw [w_pick_b] | rw [if_neg Bool.false_ne_true] | rw [w_load_n] | rw [vO_some] | rw [w_eql])
    rw [outP_enter]
    refine via_wp (by kernel_rfl) ?_
    refine mayOp_wp o (h.mono (x1.trans x2)) _ fun G3 r x3 hr => ?_
    rw [bool_eql, outP_val, hr.2 m]
    exact hK _ ((x1.trans x2).trans x3)
  have d := decide_eq_false cx
  have by0 := opText_by m wf
  have le0 := opText_le m wf
  have p0 := opText_pos o
  have inj : ∀ p, MayV p → WfV p → opText p ≠ opText o → p ≠ o := fun p _ _ q r => q (by rw [r])
  have tx : ∀ y : List Int, y = opText o → y = opText o := fun _ q => q
  obtain ⟨T, hT⟩ : ∃ T, T = opText o := ⟨_, rfl⟩
  rw [← hT] at os by0 le0 p0
  have ln := os.is.len u8_sl
  obtain ⟨q1, q2, q3, q4⟩ := modn at_ (m := (T.length : Int)) (by omega)
  repeat (first | rw [outP_val] | rw [guardP_true] | rw [ext0] | rw [ext1] | rw [nil_neq] | rw [d] | rw [ln] | rw [condP_false] | rw [boolIs_bool] | rw [beq_ff] | rw [Bool.not_false] | rw [w_pick_b] | rw [if_neg Bool.false_ne_true] | rw [w_eql])
  rw [w_rem _ _ _ (by omega), outP_val, ln, outP_val, w_add_in (by omega) (by omega), outP_val, ln, outP_val, w_rem _ _ _ (by omega), outP_val]
  generalize (at_.tmod T.length + T.length).tmod T.length = k' at *
  obtain ⟨k, rfl⟩ : ∃ k : Nat, k' = k := ⟨k'.toNat, by omega⟩
  have hk : k < T.length := by omega
  obtain ⟨pp, a1, a2, a3, a4⟩ := os.at hk
  have hb := by0 _ (List.getElem_mem hk)
  have hz := xorB_in hb hx
  have hne := xorB_ne (a := T[k]) (b := x) hb.1 hx.1 cx
  obtain ⟨G3, b1, b2, b3, b4⟩ := a4 (xorB T[k] x)
  rw [a1, outP_val, w_load_c, a3, vO_some, outP_val, w_xor hb hx, outP_val, a1, outP_val, w_store_c, b1, outP_skip, outP_enter]
  have nG2 := x2.next
  have xB : Ext [] G G3 := ((x2.mono (m' := [B]) (by simp)).trans b2).mono fun c hc hlt => by simp at hc; omega
  have byT : By (T.set k (xorB T[k] x)) := fun y hy => by
    rcases List.mem_or_eq_of_mem_set hy with r | r
    · exact by0 y r
    · rw [r]; exact hz
  have neT : T.set k (xorB T[k] x) ≠ T := fun q => by
    have := congrArg (fun l : List Int => l[k]?) q
    simp [hk] at this
    exact hne this
  have lT : (T.set k (xorB T[k] x)).length ≤ 309 := by rw [List.length_set]; exact le0
  generalize T.set k (xorB T[k] x) = T2 at *
  refine via_wp (by kernel_rfl) ?_
  have is2 : Is .u8 G3 B s T2 := b4.is
  refine reqGet_wp is2 byT (by omega) _ (fun no G4 e x4 he => ?_) fun p _ hp G4 v' b' x4 hv' => ?_
  · rw [ext0, outP_val, ext1, outP_val, op_alloc, outP_val, w_store_c, get_new_same, st11 _ _ (op_len _ _) (op_len _ _) (op_one _ rfl), outP_skip, err_neq he, outP_val, condP_true, w_load_n, get_put_same, ld11 _ (op_len _ _) (op_known _ rfl), vO_some, outP_val, op_build0, outP_val, outP_enter]
    refine via_wp (by kernel_rfl) ?_
    refine sameOp_wp OpV.zero OpV.zero (vecF_nil _ 0) (vecF_nil _ 0) _ fun G5 x5 => ?_
    rw [zero_self]
    have x6 : Ext [] G4 ((G4.new (.cells 26 (opC OpV.zero (.slice none 0 0 true)))).put G4.next (some (.cells 26 (opC OpV.zero (.slice none 0 0 true))))) := ((Ext.refl _ _).new _).put (.inl (Nat.le_refl _)) _
    exact hK _ (((x1.trans xB).trans x4).trans (x6.trans x5))
  · obtain ⟨e1, mp, wp⟩ := pOp_some byT hp
    rw [List.append_nil] at e1
    obtain ⟨f1', f2', f3'⟩ := slk_facts hv'.slk
    rw [ext0, outP_val, ext1, outP_val, op_alloc, outP_val, w_store_c, get_new_same, st11 _ _ (op_len _ _) (op_len _ _) (op_one _ f1'), outP_skip, nil_neq, outP_val, condP_false, w_load_n, get_put_same, ld11 _ (op_len _ _) (op_known _ f3'), vO_some, outP_val, outP_enter]
    have x6 : Ext [] G4 ((G4.new (.cells 26 (opC OpV.zero (.slice none 0 0 true)))).put G4.next (some (.cells 26 (opC p v')))) := ((Ext.refl _ _).new _).put (.inl (Nat.le_refl _)) _
    have g6 := get_put_same (H := G4.new (.cells 26 (opC OpV.zero (.slice none 0 0 true)))) G4.next (some (.cells 26 (opC p v')))
    have n6 : G4.next < ((G4.new (.cells 26 (opC OpV.zero (.slice none 0 0 true)))).put G4.next (some (.cells 26 (opC p v')))).next := by rw [AH.next_put, next_new]; omega
    generalize (G4.new (.cells 26 (opC OpV.zero (.slice none 0 0 true)))).put G4.next (some (.cells 26 (opC p v'))) = G6 at *
    refine via_wp (by kernel_rfl) ?_
    have xA := (xB.trans x4).trans x6
    refine reqPut_wp p (hv'.mono x6) wp _ (fun nm => absurd mp nm) fun _ G7 s2 B2 x7 hB2 os2 => ?_
    have t1 := conv_text os2.is
    have t2 := conv_text (Sl.mono is2 ((x4.trans x6).trans x7) (by simp) : Is .u8 G7 B s T2)
    have g7 : G7.get G4.next = _ := x7.get n6 (by simp) g6
    have gA7 := gA (xA.trans x7)
    have l11' := ld11 26 (op_len p v') (op_known p f3')
    have dt : decide (txt (opText p) = txt T2) = true := decide_eq_true (by rw [e1])
    repeat (first | rw [outP_val] | rw [guardP_true] | rw [ext0] | rw [ext1] | rw [nil_eql] | rw [t1] | rw [t2] | rw [w_str_eq] | rw [dt] | rw [g7] | rw [gA7] | rw [l11] | rw [l11'] | rw [boolIs_bool] | rw [beq_tt] | rw [w_pick_b] | rw [if_pos rfl] | rw [w_load_n] | rw [vO_some])
    rw [outP_enter]
    refine via_wp (by kernel_rfl) ?_
    refine sameOp_wp p o (hv'.mono (x6.trans x7)) (h.mono ((x1.trans xA).trans x7)) _ fun G8 x8 => ?_
    have ne : eqV p o = false := Bool.eq_false_iff.2 fun w => neT (by rw [e1, (eqV_iff _ _).1 w, hT])
    rw [ne]
    repeat (first | rw [outP_val] | rw [guardP_true] | rw [Bool.not_false] | rw [w_pick_b] | rw [if_pos rfl] | rw [w_not])
    exact hK _ (((x1.trans xA).trans x7).trans x8)
end
end Go.Ab
