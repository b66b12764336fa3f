/- Operations: bare, those that may be; errors; written. -/
import Derived.Test.YtcehnjmpllhieaaGreatDoorReqA
namespace Go.Ab
noncomputable section
open Go.Proofs
set_option maxRecDepth 10000
variable {H H' : AH}

/-! A field is set. -/
def OpV.s0 (o : OpV) (x : Int) : OpV := { o with kind := x }
def OpV.s1 (o : OpV) (x : List UInt8) : OpV := { o with col := x }
def OpV.s2 (o : OpV) (x : List UInt8) : OpV := { o with name := x }
def OpV.s3 (o : OpV) (x : Int) : OpV := { o with id := x }
def OpV.s4 (o : OpV) (x : Int) : OpV := { o with dim := x }
def OpV.s5 (o : OpV) (x : Int) : OpV := { o with metric := x }
def OpV.s6 (o : OpV) (x : Int) : OpV := { o with index := x }
def OpV.s7 (o : OpV) (x : List Int) : OpV := { o with vec := x }
def OpV.s8 (o : OpV) (x : List UInt8) : OpV := { o with pay := x }
def OpV.s9 (o : OpV) (x : Int) : OpV := { o with k := x }
def OpV.s10 (o : OpV) (x : Int) : OpV := { o with draw := x }
theorem op_s0 (H : AH) (b : Nat) (e : TypeId) (o : OpV) (v : AV) (x : Int) : stN 1 H b (some (.cells e (opC o v))) 0 (.int .i64 x) = some (.skip (H.put b (some (.cells e (opC (o.s0 x) v))))) := stN_one b e (opC o v) 0 _ rfl (by show 0 < 11; decide)
theorem op_s1 (H : AH) (b : Nat) (e : TypeId) (o : OpV) (v : AV) (x : List UInt8) : stN 1 H b (some (.cells e (opC o v))) 1 (.str x) = some (.skip (H.put b (some (.cells e (opC (o.s1 x) v))))) := stN_one b e (opC o v) 1 _ rfl (by show 1 < 11; decide)
theorem op_s2 (H : AH) (b : Nat) (e : TypeId) (o : OpV) (v : AV) (x : List UInt8) : stN 1 H b (some (.cells e (opC o v))) 2 (.str x) = some (.skip (H.put b (some (.cells e (opC (o.s2 x) v))))) := stN_one b e (opC o v) 2 _ rfl (by show 2 < 11; decide)
theorem op_s3 (H : AH) (b : Nat) (e : TypeId) (o : OpV) (v : AV) (x : Int) : stN 1 H b (some (.cells e (opC o v))) 3 (.int .i64 x) = some (.skip (H.put b (some (.cells e (opC (o.s3 x) v))))) := stN_one b e (opC o v) 3 _ rfl (by show 3 < 11; decide)
theorem op_s4 (H : AH) (b : Nat) (e : TypeId) (o : OpV) (v : AV) (x : Int) : stN 1 H b (some (.cells e (opC o v))) 4 (.int .i64 x) = some (.skip (H.put b (some (.cells e (opC (o.s4 x) v))))) := stN_one b e (opC o v) 4 _ rfl (by show 4 < 11; decide)
theorem op_s5 (H : AH) (b : Nat) (e : TypeId) (o : OpV) (v : AV) (x : Int) : stN 1 H b (some (.cells e (opC o v))) 5 (.int .i64 x) = some (.skip (H.put b (some (.cells e (opC (o.s5 x) v))))) := stN_one b e (opC o v) 5 _ rfl (by show 5 < 11; decide)
theorem op_s6 (H : AH) (b : Nat) (e : TypeId) (o : OpV) (v : AV) (x : Int) : stN 1 H b (some (.cells e (opC o v))) 6 (.int .i64 x) = some (.skip (H.put b (some (.cells e (opC (o.s6 x) v))))) := stN_one b e (opC o v) 6 _ rfl (by show 6 < 11; decide)
theorem op_s7 (H : AH) (b : Nat) (e : TypeId) (o : OpV) (v : AV) {u : AV} (V : List Int) (h : u.one = true) : stN 1 H b (some (.cells e (opC o v))) 7 u = some (.skip (H.put b (some (.cells e (opC (o.s7 V) u))))) := stN_one b e (opC o v) 7 u h (by show 7 < 11; decide)
theorem op_s8 (H : AH) (b : Nat) (e : TypeId) (o : OpV) (v : AV) (x : List UInt8) : stN 1 H b (some (.cells e (opC o v))) 8 (.str x) = some (.skip (H.put b (some (.cells e (opC (o.s8 x) v))))) := stN_one b e (opC o v) 8 _ rfl (by show 8 < 11; decide)
theorem op_s9 (H : AH) (b : Nat) (e : TypeId) (o : OpV) (v : AV) (x : Int) : stN 1 H b (some (.cells e (opC o v))) 9 (.int .i64 x) = some (.skip (H.put b (some (.cells e (opC (o.s9 x) v))))) := stN_one b e (opC o v) 9 _ rfl (by show 9 < 11; decide)
theorem op_s10 (H : AH) (b : Nat) (e : TypeId) (o : OpV) (v : AV) (x : Int) : stN 1 H b (some (.cells e (opC o v))) 10 (.int .u32 x) = some (.skip (H.put b (some (.cells e (opC (o.s10 x) v))))) := stN_one b e (opC o v) 10 _ rfl (by show 10 < 11; decide)
theorem beq_int (k : IntKind) (z : Int) : AV.beq (.int k z) (.int k z) = true := by simp [AV.beq, eqZ_eq, kEq_iff]
theorem op_build (k : Int) : w_build PP 26 H [(0, .int .i64 k)] = some (.val (opA (OpV.zero.s0 k) (.slice none 0 0 true)) H) := by kernel_rfl
theorem op_build0 : w_build PP 26 H [] = some (.val (opA OpV.zero (.slice none 0 0 true)) H) := by kernel_rfl
theorem op_alloc : w_alloc 26 [(.int .i64 0), (.str []), (.str []), (.int .i64 0), (.int .i64 0), (.int .i64 0), (.int .i64 0), (.slice none 0 0 true), (.str []), (.int .i64 0), (.int .u32 0)] H none = some (.val (.ptr (some (H.next, 0))) (H.new (.cells 26 (opC OpV.zero (.slice none 0 0 true))))) := w_alloc_none _ _
set_option maxHeartbeats 4000000 in
theorem bare_wp {b : Nat} {v : AV} (o : OpV) (h : VecF H b v o.vec) (K : AV → AH → Prop) (hK : ∀ H' v', Ext [] H H' → VecF H' b v' (bareV o).vec → K (opA (bareV o) v') H') : CC.call 48 [opA o v] H K := by
  refine m_req_bare_ok _ _ _ ?_
  unfold m_req_bare
  obtain ⟨f1, f2, f3⟩ := slk_facts h.slk
  rw [op_box o f1, outP_val, op_alloc, outP_val]
  have e1 : (H.new (.cells 26 (opC o v))).next = H.next + 1 := rfl
  rw [e1]
  unfold m_req_baret
  have x1 : Ext [] H ((H.new (.cells 26 (opC o v))).new (.cells 26 (opC OpV.zero (.slice none 0 0 true)))) := ((Ext.refl _ _).new _).new _
  have gA : ((H.new (.cells 26 (opC o v))).new (.cells 26 (opC OpV.zero (.slice none 0 0 true)))).get H.next = some (.cells 26 (opC o v)) := by rw [get_new_ne _ (by rw [e1]; omega), get_new_same]
  have gR := get_new_same (H.new (.cells 26 (opC o v))) (.cells 26 (opC OpV.zero (.slice none 0 0 true)))
  have n1 : ((H.new (.cells 26 (opC o v))).new (.cells 26 (opC OpV.zero (.slice none 0 0 true)))).next = H.next + 2 := rfl
  rw [e1] at gR
  generalize (H.new (.cells 26 (opC o v))).new (.cells 26 (opC OpV.zero (.slice none 0 0 true))) = G at *
  repeat (first | rw [outP_val] | rw [gA] | rw [op_f0] | rw [w_fieldAddr_ptr] | rw [Nat.zero_add] | rw [w_load_c] | rw [vO_some])
  rw [op_build, outP_val, op_alloc, outP_val, n1]
  have x2 : Ext [] H (G.new (.cells 26 (opC OpV.zero (.slice none 0 0 true)))) := x1.new _
  have gA2 : (G.new (.cells 26 (opC OpV.zero (.slice none 0 0 true)))).get H.next = some (.cells 26 (opC o v)) := by rw [get_new_ne _ (by omega), gA]
  have gR2 : (G.new (.cells 26 (opC OpV.zero (.slice none 0 0 true)))).get (H.next + 1) = some (.cells 26 (opC OpV.zero (.slice none 0 0 true))) := by rw [get_new_ne _ (by omega), gR]
  have gX2 := get_new_same G (.cells 26 (opC OpV.zero (.slice none 0 0 true)))
  rw [n1] at gX2
  clear gA gR n1 x1
  generalize G.new (.cells 26 (opC OpV.zero (.slice none 0 0 true))) = G2 at *
  rw [w_store_c, gX2, st11 _ _ (op_len _ _) (op_len _ _) (op_one _ rfl), outP_skip]
  have gX := get_put_same (H := G2) (H.next + 2) (some (.cells 26 (opC (OpV.zero.s0 o.kind) (.slice none 0 0 true))))
  have gA : (G2.put (H.next + 2) (some (.cells 26 (opC (OpV.zero.s0 o.kind) (.slice none 0 0 true))))).get H.next = some (.cells 26 (opC o v)) := by rw [get_put_ne _ (by omega), gA2]
  have gR : (G2.put (H.next + 2) (some (.cells 26 (opC (OpV.zero.s0 o.kind) (.slice none 0 0 true))))).get (H.next + 1) = some (.cells 26 (opC OpV.zero (.slice none 0 0 true))) := by rw [get_put_ne _ (by omega), gR2]
  have x3 : Ext [] H (G2.put (H.next + 2) (some (.cells 26 (opC (OpV.zero.s0 o.kind) (.slice none 0 0 true))))) := x2.put (.inl (by omega)) _
  clear gA2 gR2 gX2 x2
  generalize G2.put (H.next + 2) (some (.cells 26 (opC (OpV.zero.s0 o.kind) (.slice none 0 0 true)))) = G3 at *
  have pA : ∀ (G : AH) x, (G.put (H.next + 2) x).get H.next = G.get H.next := fun G x => get_put_ne x (by omega)
  have pR : ∀ (G : AH) x, (G.put (H.next + 2) x).get (H.next + 1) = G.get (H.next + 1) := fun G x => get_put_ne x (by omega)
  have fin : ∀ (x : OpV) (u : AV) (G' : AH), bareV o = x → Ext [H.next + 2, H.next + 1] G3 G' → (u = .slice none 0 0 true ∧ x.vec = [] ∨ u = v ∧ x.vec = o.vec) → K (opA x u) G' := by
    intro x u G' hx hg hu
    have x4 : Ext [] H G' := ((x3.mono (m' := [H.next + 2, H.next + 1]) (by simp)).trans hg).mono fun b hb hlt => by simp at hb; omega
    subst hx
    refine hK G' u x4 ?_
    rcases hu with ⟨rfl, e⟩ | ⟨rfl, e⟩
    · rw [e]; exact vecF_nil _ _
    · rw [e]; exact h.mono x4
  clear hK x3
  unfold m_req_baretth
  repeat (first | rw [outP_val] | rw [gA] | rw [op_f0] | rw [w_fieldAddr_ptr] | rw [Nat.zero_add] | rw [w_load_c] | rw [vO_some])
  unfold m_req_baretthtbhbhbhbhbhbhbhbhbh
  by_cases c1 : o.kind = 1
  case pos =>
    rw [w_eql, outP_val, decide_eq_true c1, condP_true]
    repeat (first | rw [outP_val] | rw [gA] | rw [gX] | rw [pA] | rw [get_put_same] | rw [op_f4] | rw [op_f5] | rw [op_s4] | rw [op_s5] | rw [beq_int] | rw [reC_val] | rw [ckP_true] | rw [outP_skip] | rw [w_fieldAddr_ptr] | rw [Nat.zero_add] | rw [w_load_c] | rw [vO_some] | rw [w_store_c])
    unfold m_req_baretthtbhbhbhbhbhbhbt
    repeat (first | rw [outP_val] | rw [gA] | rw [pA] | rw [get_put_same] | rw [op_f6] | rw [op_s6] | rw [outP_skip] | rw [w_fieldAddr_ptr] | rw [Nat.zero_add] | rw [w_load_c] | rw [vO_some] | rw [w_store_c])
    unfold m_req_baretthtbhbhbhbhbhbt
    repeat (first | rw [outP_val] | rw [gA] | rw [gR] | rw [pA] | rw [pR] | rw [get_put_same] | rw [op_f1] | rw [op_s1] | rw [ld11 _ (op_len _ _) (op_known _ (by first | rfl | exact f3))] | rw [st11 _ _ (op_len _ _) (op_len _ _) (op_one _ (by first | rfl | exact f1))] | rw [end11 (get_put_same _ _) (op_len _ _) (op_known _ (by first | rfl | exact f3))] | rw [outP_skip] | rw [w_fieldAddr_ptr] | rw [Nat.zero_add] | rw [w_load_c] | rw [w_load_n] | rw [vO_some] | rw [w_store_c])
    exact fin _ _ _ (by simp [bareV, c1, OpV.zero, OpV.s0, OpV.s1, OpV.s4, OpV.s5, OpV.s6 ]) (by repeat (first | exact Ext.refl _ _ | refine Ext.put ?_ (.inr (by simp)) _)) (.inl ⟨rfl, rfl⟩)
  rw [w_eql, outP_val, decide_eq_false c1, condP_false]
  unfold m_req_baretthtbhbhbhbhbhbhbhbhbht
  by_cases c6 : o.kind = 6
  case pos =>
    rw [w_eql, outP_val, decide_eq_true c6, condP_true]
    unfold m_req_baretthtbhbhbhbhbhbhbt
    repeat (first | rw [outP_val] | rw [gA] | rw [gX] | rw [op_f6] | rw [op_s6] | rw [outP_skip] | rw [w_fieldAddr_ptr] | rw [Nat.zero_add] | rw [w_load_c] | rw [vO_some] | rw [w_store_c])
    unfold m_req_baretthtbhbhbhbhbhbt
    repeat (first | rw [outP_val] | rw [gA] | rw [gR] | rw [pA] | rw [pR] | rw [get_put_same] | rw [op_f1] | rw [op_s1] | rw [ld11 _ (op_len _ _) (op_known _ (by first | rfl | exact f3))] | rw [st11 _ _ (op_len _ _) (op_len _ _) (op_one _ (by first | rfl | exact f1))] | rw [end11 (get_put_same _ _) (op_len _ _) (op_known _ (by first | rfl | exact f3))] | rw [outP_skip] | rw [w_fieldAddr_ptr] | rw [Nat.zero_add] | rw [w_load_c] | rw [w_load_n] | rw [vO_some] | rw [w_store_c])
    exact fin _ _ _ (by simp [bareV, c6, OpV.zero, OpV.s0, OpV.s1, OpV.s6 ]) (by repeat (first | exact Ext.refl _ _ | refine Ext.put ?_ (.inr (by simp)) _)) (.inl ⟨rfl, rfl⟩)
  rw [w_eql, outP_val, decide_eq_false c6, condP_false]
  unfold m_req_baretthtbhbhbhbhbhbhbhbhbhtth
  by_cases c2 : o.kind = 2
  case pos =>
    rw [w_eql, outP_val, decide_eq_true c2, condP_true]
    unfold m_req_baretthtbhbhbhbhbhbhbhbhbhttht
    rw [condP_true]
    unfold m_req_baretthtbhbhbhbhbhbt
    repeat (first | rw [outP_val] | rw [gA] | rw [gX] | rw [gR] | rw [pR] | rw [get_put_same] | rw [op_f1] | rw [op_s1] | rw [ld11 _ (op_len _ _) (op_known _ (by first | rfl | exact f3))] | rw [st11 _ _ (op_len _ _) (op_len _ _) (op_one _ (by first | rfl | exact f1))] | rw [end11 (get_put_same _ _) (op_len _ _) (op_known _ (by first | rfl | exact f3))] | rw [outP_skip] | rw [w_fieldAddr_ptr] | rw [Nat.zero_add] | rw [w_load_c] | rw [w_load_n] | rw [vO_some] | rw [w_store_c])
    exact fin _ _ _ (by simp [bareV, c2, OpV.zero, OpV.s0, OpV.s1 ]) (by repeat (first | exact Ext.refl _ _ | refine Ext.put ?_ (.inr (by simp)) _)) (.inl ⟨rfl, rfl⟩)
  rw [w_eql, outP_val, decide_eq_false c2, condP_false, w_eql, outP_val]
  unfold m_req_baretthtbhbhbhbhbhbhbhbhbhttht
  by_cases c15 : o.kind = 15
  case pos =>
    rw [decide_eq_true c15, condP_true]
    unfold m_req_baretthtbhbhbhbhbhbt
    repeat (first | rw [outP_val] | rw [gA] | rw [gX] | rw [gR] | rw [pR] | rw [get_put_same] | rw [op_f1] | rw [op_s1] | rw [ld11 _ (op_len _ _) (op_known _ (by first | rfl | exact f3))] | rw [st11 _ _ (op_len _ _) (op_len _ _) (op_one _ (by first | rfl | exact f1))] | rw [end11 (get_put_same _ _) (op_len _ _) (op_known _ (by first | rfl | exact f3))] | rw [outP_skip] | rw [w_fieldAddr_ptr] | rw [Nat.zero_add] | rw [w_load_c] | rw [w_load_n] | rw [vO_some] | rw [w_store_c])
    exact fin _ _ _ (by simp [bareV, c15, OpV.zero, OpV.s0, OpV.s1 ]) (by repeat (first | exact Ext.refl _ _ | refine Ext.put ?_ (.inr (by simp)) _)) (.inl ⟨rfl, rfl⟩)
  rw [decide_eq_false c15, condP_false]
  unfold m_req_baretthtbhbhbhbhbhbhbhbhbhttt
  by_cases c3 : o.kind = 3
  case pos =>
    rw [w_eql, outP_val, decide_eq_true c3, condP_true]
    unfold m_req_baretthtbhbhbhbhbt
    repeat (first | rw [outP_val] | rw [gA] | rw [gX] | rw [pA] | rw [get_put_same] | rw [op_f7 _ _ f2] | rw [op_f8] | rw [op_f10] | rw [op_s7 _ _ _ _ _ o.vec f1] | rw [op_s8] | rw [op_s10] | rw [beq_int] | rw [beq_str] | rw [reC_val] | rw [ckP_true] | rw [outP_skip] | rw [w_fieldAddr_ptr] | rw [Nat.zero_add] | rw [w_load_c] | rw [vO_some] | rw [w_store_c])
    unfold m_req_baretthtbhbhbhbt
    repeat (first | rw [outP_val] | rw [gA] | rw [gR] | rw [pA] | rw [pR] | rw [get_put_same] | rw [op_f1] | rw [op_f3] | rw [op_s1] | rw [op_s3] | rw [beq_int] | rw [reC_val] | rw [ckP_true] | rw [ld11 _ (op_len _ _) (op_known _ (by first | rfl | exact f3))] | rw [st11 _ _ (op_len _ _) (op_len _ _) (op_one _ (by first | rfl | exact f1))] | rw [end11 (get_put_same _ _) (op_len _ _) (op_known _ (by first | rfl | exact f3))] | rw [outP_skip] | rw [w_fieldAddr_ptr] | rw [Nat.zero_add] | rw [w_load_c] | rw [w_load_n] | rw [vO_some] | rw [w_store_c])
    exact fin _ _ _ (by simp [bareV, c3, OpV.zero, OpV.s0, OpV.s1, OpV.s3, OpV.s7, OpV.s8, OpV.s10]) (by repeat (first | exact Ext.refl _ _ | refine Ext.put ?_ (.inr (by simp)) _)) (.inr ⟨rfl, rfl⟩)
  rw [w_eql, outP_val, decide_eq_false c3, condP_false]
  unfold m_req_baretthtbhbhbhbhbhbhbhbhbhtttth
  by_cases c4 : o.kind = 4
  case pos =>
    rw [w_eql, outP_val, decide_eq_true c4, condP_true]
    unfold m_req_baretthtbhbhbhbhbhbhbhbhbhttttht
    rw [condP_true]
    unfold m_req_baretthtbhbhbhbt
    repeat (first | rw [outP_val] | rw [gA] | rw [gX] | rw [gR] | rw [pA] | rw [pR] | rw [get_put_same] | rw [op_f1] | rw [op_f3] | rw [op_s1] | rw [op_s3] | rw [beq_int] | rw [reC_val] | rw [ckP_true] | rw [ld11 _ (op_len _ _) (op_known _ (by first | rfl | exact f3))] | rw [st11 _ _ (op_len _ _) (op_len _ _) (op_one _ (by first | rfl | exact f1))] | rw [end11 (get_put_same _ _) (op_len _ _) (op_known _ (by first | rfl | exact f3))] | rw [outP_skip] | rw [w_fieldAddr_ptr] | rw [Nat.zero_add] | rw [w_load_c] | rw [w_load_n] | rw [vO_some] | rw [w_store_c])
    exact fin _ _ _ (by simp [bareV, c4, OpV.zero, OpV.s0, OpV.s1, OpV.s3 ]) (by repeat (first | exact Ext.refl _ _ | refine Ext.put ?_ (.inr (by simp)) _)) (.inl ⟨rfl, rfl⟩)
  rw [w_eql, outP_val, decide_eq_false c4, condP_false, w_eql, outP_val]
  unfold m_req_baretthtbhbhbhbhbhbhbhbhbhttttht
  by_cases c12 : o.kind = 12
  case pos =>
    rw [decide_eq_true c12, condP_true]
    unfold m_req_baretthtbhbhbhbt
    repeat (first | rw [outP_val] | rw [gA] | rw [gX] | rw [gR] | rw [pA] | rw [pR] | rw [get_put_same] | rw [op_f1] | rw [op_f3] | rw [op_s1] | rw [op_s3] | rw [beq_int] | rw [reC_val] | rw [ckP_true] | rw [ld11 _ (op_len _ _) (op_known _ (by first | rfl | exact f3))] | rw [st11 _ _ (op_len _ _) (op_len _ _) (op_one _ (by first | rfl | exact f1))] | rw [end11 (get_put_same _ _) (op_len _ _) (op_known _ (by first | rfl | exact f3))] | rw [outP_skip] | rw [w_fieldAddr_ptr] | rw [Nat.zero_add] | rw [w_load_c] | rw [w_load_n] | rw [vO_some] | rw [w_store_c])
    exact fin _ _ _ (by simp [bareV, c12, OpV.zero, OpV.s0, OpV.s1, OpV.s3 ]) (by repeat (first | exact Ext.refl _ _ | refine Ext.put ?_ (.inr (by simp)) _)) (.inl ⟨rfl, rfl⟩)
  rw [decide_eq_false c12, condP_false]
  unfold m_req_baretthtbhbhbhbhbhbhbhbhbhttttt
  by_cases c5 : o.kind = 5
  case pos =>
    rw [w_eql, outP_val, decide_eq_true c5, condP_true]
    unfold m_req_baretthtbhbhbt
    repeat (first | rw [outP_val] | rw [gA] | rw [gX] | rw [gR] | rw [pA] | rw [pR] | rw [get_put_same] | rw [op_f1] | rw [op_f2] | rw [op_s1] | rw [op_s2] | rw [beq_str] | rw [reC_val] | rw [ckP_true] | rw [ld11 _ (op_len _ _) (op_known _ (by first | rfl | exact f3))] | rw [st11 _ _ (op_len _ _) (op_len _ _) (op_one _ (by first | rfl | exact f1))] | rw [end11 (get_put_same _ _) (op_len _ _) (op_known _ (by first | rfl | exact f3))] | rw [outP_skip] | rw [w_fieldAddr_ptr] | rw [Nat.zero_add] | rw [w_load_c] | rw [w_load_n] | rw [vO_some] | rw [w_store_c])
    exact fin _ _ _ (by simp [bareV, c5, OpV.zero, OpV.s0, OpV.s1, OpV.s2 ]) (by repeat (first | exact Ext.refl _ _ | refine Ext.put ?_ (.inr (by simp)) _)) (.inl ⟨rfl, rfl⟩)
  rw [w_eql, outP_val, decide_eq_false c5, condP_false]
  by_cases c10 : o.kind = 10
  case pos =>
    rw [w_eql, outP_val, decide_eq_true c10, condP_true]
    unfold m_req_baretthtbhbt
    repeat (first | rw [outP_val] | rw [gA] | rw [gX] | rw [gR] | rw [pR] | rw [get_put_same] | rw [op_f10] | rw [op_s10] | rw [ld11 _ (op_len _ _) (op_known _ (by first | rfl | exact f3))] | rw [st11 _ _ (op_len _ _) (op_len _ _) (op_one _ (by first | rfl | exact f1))] | rw [end11 (get_put_same _ _) (op_len _ _) (op_known _ (by first | rfl | exact f3))] | rw [outP_skip] | rw [w_fieldAddr_ptr] | rw [Nat.zero_add] | rw [w_load_c] | rw [w_load_n] | rw [vO_some] | rw [w_store_c])
    exact fin _ _ _ (by simp [bareV, c10, OpV.zero, OpV.s0, OpV.s10]) (by repeat (first | exact Ext.refl _ _ | refine Ext.put ?_ (.inr (by simp)) _)) (.inl ⟨rfl, rfl⟩)
  rw [w_eql, outP_val, decide_eq_false c10, condP_false]
  by_cases c13 : o.kind = 13
  case pos =>
    rw [w_eql, outP_val, decide_eq_true c13, condP_true]
    unfold m_req_baretthtbt
    repeat (first | rw [outP_val] | rw [gA] | rw [gX] | rw [gR] | rw [pA] | rw [pR] | rw [get_put_same] | rw [op_f1] | rw [op_f7 _ _ f2] | rw [op_f9] | rw [op_s1] | rw [op_s7 _ _ _ _ _ o.vec f1] | rw [op_s9] | rw [beq_int] | rw [beq_slk h.slk] | rw [reC_val] | rw [ckP_true] | rw [ld11 _ (op_len _ _) (op_known _ (by first | rfl | exact f3))] | rw [st11 _ _ (op_len _ _) (op_len _ _) (op_one _ (by first | rfl | exact f1))] | rw [end11 (get_put_same _ _) (op_len _ _) (op_known _ (by first | rfl | exact f3))] | rw [outP_skip] | rw [w_fieldAddr_ptr] | rw [Nat.zero_add] | rw [w_load_c] | rw [w_load_n] | rw [vO_some] | rw [w_store_c])
    exact fin _ _ _ (by simp [bareV, c13, OpV.zero, OpV.s0, OpV.s1, OpV.s7, OpV.s9 ]) (by repeat (first | exact Ext.refl _ _ | refine Ext.put ?_ (.inr (by simp)) _)) (.inr ⟨rfl, rfl⟩)
  rw [w_eql, outP_val, decide_eq_false c13, condP_false]
  repeat (first | rw [outP_val] | rw [gX] | rw [gR] | rw [ld11 _ (op_len _ _) (op_known _ (by first | rfl | exact f3))] | rw [st11 _ _ (op_len _ _) (op_len _ _) (op_one _ (by first | rfl | exact f1))] | rw [end11 (get_put_same _ _) (op_len _ _) (op_known _ (by first | rfl | exact f3))] | rw [outP_skip] | rw [w_load_n] | rw [vO_some] | rw [w_store_c])
  exact fin _ _ _ (by simp [bareV, c1, c6, c2, c15, c3, c4, c12, c5, c10, c13, OpV.zero, OpV.s0 ]) (by repeat (first | exact Ext.refl _ _ | refine Ext.put ?_ (.inr (by simp)) _)) (.inl ⟨rfl, rfl⟩)
end
end Go.Ab
