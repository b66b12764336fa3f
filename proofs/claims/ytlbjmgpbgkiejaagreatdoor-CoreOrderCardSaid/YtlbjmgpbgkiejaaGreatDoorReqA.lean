/- Operations, as they lie. -/
import Derived.Test.YtlbjmgpbgkiejaaGreatDoorReqLaw
import Derived.Test.YtlbjmgpbgkiejaaGreatDoorVecK
namespace Go.Ab
noncomputable section
open Go.Proofs
set_option maxRecDepth 10000
variable {H H' : AH}

/-! Operations. -/
def opC (o : OpV) (v : AV) : List AV := [.int .i64 o.kind, .str o.col, .str o.name, .int .i64 o.id, .int .i64 o.dim, .int .i64 o.metric, .int .i64 o.index, v, .str o.pay, .int .i64 o.k, .int .u32 o.draw]
abbrev opA (o : OpV) (v : AV) : AV := .agg (opC o v)
/-- A slice of numbers, as a field. -/
structure VecF (H : AH) (b : Nat) (v : AV) (V : List Int) : Prop where
  is : Is .i32 H b v V
  len : V.length ≤ 9223372036854775807
theorem VecF.mono {b : Nat} {v : AV} {V : List Int} (h : VecF H b v V) (e : Ext [] H H') : VecF H' b v V := ⟨Sl.mono h.is e (by simp), h.len⟩
theorem vecF_nil (H : AH) (b : Nat) : VecF H b (.slice none 0 0 true) [] := ⟨⟨.inl ⟨.inl rfl, rfl⟩⟩, by simp⟩
theorem VecF.slk {b : Nat} {v : AV} {V : List Int} (h : VecF H b v V) : SlK v := Sl.slk h.is
theorem slk_facts {v : AV} (h : SlK v) : v.one = true ∧ clearA v = some v ∧ v.known = true := by
  rcases h with rfl | ⟨_, _, rfl⟩ | ⟨_, _, _, _, _, rfl⟩ <;> exact ⟨rfl, rfl, rfl⟩
theorem op_len (o : OpV) (v : AV) : (opC o v).length = 11 := rfl
theorem op_one (o : OpV) {v : AV} (h : v.one = true) : (opC o v).all AV.one = true := by show (v.one && true) = true; rw [h]; rfl
theorem op_known (o : OpV) {v : AV} (h : v.known = true) : (opC o v).all AV.known = true := by show (v.known && true) = true; rw [h]; rfl
theorem op_f0 (e : TypeId) (o : OpV) (v : AV) : ldV (some (.cells e (opC o v))) 0 = some (.int .i64 o.kind) := rfl
theorem op_f1 (e : TypeId) (o : OpV) (v : AV) : ldV (some (.cells e (opC o v))) 1 = some (.str o.col) := rfl
theorem op_f2 (e : TypeId) (o : OpV) (v : AV) : ldV (some (.cells e (opC o v))) 2 = some (.str o.name) := rfl
theorem op_f3 (e : TypeId) (o : OpV) (v : AV) : ldV (some (.cells e (opC o v))) 3 = some (.int .i64 o.id) := rfl
theorem op_f4 (e : TypeId) (o : OpV) (v : AV) : ldV (some (.cells e (opC o v))) 4 = some (.int .i64 o.dim) := rfl
theorem op_f5 (e : TypeId) (o : OpV) (v : AV) : ldV (some (.cells e (opC o v))) 5 = some (.int .i64 o.metric) := rfl
theorem op_f6 (e : TypeId) (o : OpV) (v : AV) : ldV (some (.cells e (opC o v))) 6 = some (.int .i64 o.index) := rfl
theorem op_f7 (e : TypeId) (o : OpV) {v : AV} (h : clearA v = some v) : ldV (some (.cells e (opC o v))) 7 = some v := h
theorem op_f8 (e : TypeId) (o : OpV) (v : AV) : ldV (some (.cells e (opC o v))) 8 = some (.str o.pay) := rfl
theorem op_f9 (e : TypeId) (o : OpV) (v : AV) : ldV (some (.cells e (opC o v))) 9 = some (.int .i64 o.k) := rfl
theorem op_f10 (e : TypeId) (o : OpV) (v : AV) : ldV (some (.cells e (opC o v))) 10 = some (.int .u32 o.draw) := rfl
theorem ld11 (e : TypeId) {cs : List AV} (hl : cs.length = 11) (hk : cs.all AV.known = true) : ldN 11 (some (.cells e cs)) 0 = some (.agg cs) := by
  refine ldN_of (fun q => by rw [q] at hl; cases hl) hl (fun i v h => ?_) hk
  rw [Nat.zero_add]
  exact h
theorem st11 (b : Nat) (e : TypeId) {cs l : List AV} (hc : cs.length = 11) (hl : l.length = 11) (h1 : l.all AV.one = true) : stN 11 H b (some (.cells e cs)) 0 (.agg l) = some (.skip (H.put b (some (.cells e l)))) := by
  rw [stN_cells b e cs 0 (.agg l) ⟨hl, h1, fun q => by rw [show (AV.agg l).parts = l from rfl] at q; rw [q] at hl; cases hl⟩ (by omega), show (AV.agg l).parts = l from rfl, List.take_zero, List.nil_append, List.drop_of_length_le (by omega), List.append_nil]
theorem res11 {b : Nat} {e : TypeId} {l : List AV} (h : H.get b = some (.cells e l)) (hl : l.length = 11) (hk : l.all AV.known = true) (r : Option (List AV)) : resR (partF (some (some 11))) H (.ptr (some (b, 0))) r = ob r fun q => some (.agg l :: q) := by
  have e1 : cut l 0 11 = some l := by rw [cut_eq, if_pos (by omega), List.drop_zero, List.take_of_length_le (by omega)]
  simp only [resR, partF, ob_some, onPtr, cellsTo, h]
  rw [e1, ob_some, ob_some]
  simp only [clearA, allB_eq, hk, br_true, ob_some]
theorem end11 {b : Nat} {e : TypeId} {l : List AV} (h : H.get b = some (.cells e l)) (hl : l.length = 11) (hk : l.all AV.known = true) (K : AV → AH → Prop) : endP (resR (partF (some (some 11))) H (.ptr (some (b, 0))) (some [])) K H = K (.agg l) H := by
  rw [res11 h hl hk]; rfl
theorem end11' {b : Nat} {e : TypeId} {l : List AV} (h : H.get b = some (.cells e l)) (hl : l.length = 11) (hk : l.all AV.known = true) (r : AV) (K : AV → AH → Prop) : endP (resR (partF (some (some 11))) H (.ptr (some (b, 0))) (resT r (some []))) K H = K (.tup [.agg l, r]) H := by
  rw [res11 h hl hk]; rfl
theorem op_box (o : OpV) {v : AV} (h : v.one = true) (e : TypeId) : w_box e H (opA o v) none = some (.val (.ptr (some (H.next, 0))) (H.new (.cells e (opC o v)))) := w_box_one (op_one o h)
theorem beq_op (o : OpV) {v : AV} (h : SlK v) : AV.beq (opA o v) (opA o v) = true := by
  simp [opC, AV.beq, AV.beqL, kEq_iff, eqZ_eq, strEq_eq, beq_slk h]
/-! A field is set. -/
def OpV.s0 (o : OpV) (x : Int) : OpV := { o with kind := x }
def OpV.s1 (o : OpV) (x : List UInt8) : OpV := { o with col := x }
def OpV.s2 (o : OpV) (x : List UInt8) : OpV := { o with name := x }
def OpV.s3 (o : OpV) (x : Int) : OpV := { o with id := x }
def OpV.s4 (o : OpV) (x : Int) : OpV := { o with dim := x }
def OpV.s5 (o : OpV) (x : Int) : OpV := { o with metric := x }
def OpV.s6 (o : OpV) (x : Int) : OpV := { o with index := x }
def OpV.s7 (o : OpV) (x : List Int) : OpV := { o with vec := x }
def OpV.s8 (o : OpV) (x : List UInt8) : OpV := { o with pay := x }
def OpV.s9 (o : OpV) (x : Int) : OpV := { o with k := x }
def OpV.s10 (o : OpV) (x : Int) : OpV := { o with draw := x }
theorem op_s0 (H : AH) (b : Nat) (e : TypeId) (o : OpV) (v : AV) (x : Int) : stN 1 H b (some (.cells e (opC o v))) 0 (.int .i64 x) = some (.skip (H.put b (some (.cells e (opC (o.s0 x) v))))) := stN_one b e (opC o v) 0 _ rfl (by show 0 < 11; decide)
theorem op_s1 (H : AH) (b : Nat) (e : TypeId) (o : OpV) (v : AV) (x : List UInt8) : stN 1 H b (some (.cells e (opC o v))) 1 (.str x) = some (.skip (H.put b (some (.cells e (opC (o.s1 x) v))))) := stN_one b e (opC o v) 1 _ rfl (by show 1 < 11; decide)
theorem op_s2 (H : AH) (b : Nat) (e : TypeId) (o : OpV) (v : AV) (x : List UInt8) : stN 1 H b (some (.cells e (opC o v))) 2 (.str x) = some (.skip (H.put b (some (.cells e (opC (o.s2 x) v))))) := stN_one b e (opC o v) 2 _ rfl (by show 2 < 11; decide)
theorem op_s3 (H : AH) (b : Nat) (e : TypeId) (o : OpV) (v : AV) (x : Int) : stN 1 H b (some (.cells e (opC o v))) 3 (.int .i64 x) = some (.skip (H.put b (some (.cells e (opC (o.s3 x) v))))) := stN_one b e (opC o v) 3 _ rfl (by show 3 < 11; decide)
theorem op_s4 (H : AH) (b : Nat) (e : TypeId) (o : OpV) (v : AV) (x : Int) : stN 1 H b (some (.cells e (opC o v))) 4 (.int .i64 x) = some (.skip (H.put b (some (.cells e (opC (o.s4 x) v))))) := stN_one b e (opC o v) 4 _ rfl (by show 4 < 11; decide)
theorem op_s5 (H : AH) (b : Nat) (e : TypeId) (o : OpV) (v : AV) (x : Int) : stN 1 H b (some (.cells e (opC o v))) 5 (.int .i64 x) = some (.skip (H.put b (some (.cells e (opC (o.s5 x) v))))) := stN_one b e (opC o v) 5 _ rfl (by show 5 < 11; decide)
theorem op_s6 (H : AH) (b : Nat) (e : TypeId) (o : OpV) (v : AV) (x : Int) : stN 1 H b (some (.cells e (opC o v))) 6 (.int .i64 x) = some (.skip (H.put b (some (.cells e (opC (o.s6 x) v))))) := stN_one b e (opC o v) 6 _ rfl (by show 6 < 11; decide)
theorem op_s7 (H : AH) (b : Nat) (e : TypeId) (o : OpV) (v : AV) {u : AV} (V : List Int) (h : u.one = true) : stN 1 H b (some (.cells e (opC o v))) 7 u = some (.skip (H.put b (some (.cells e (opC (o.s7 V) u))))) := stN_one b e (opC o v) 7 u h (by show 7 < 11; decide)
theorem op_s8 (H : AH) (b : Nat) (e : TypeId) (o : OpV) (v : AV) (x : List UInt8) : stN 1 H b (some (.cells e (opC o v))) 8 (.str x) = some (.skip (H.put b (some (.cells e (opC (o.s8 x) v))))) := stN_one b e (opC o v) 8 _ rfl (by show 8 < 11; decide)
theorem op_s9 (H : AH) (b : Nat) (e : TypeId) (o : OpV) (v : AV) (x : Int) : stN 1 H b (some (.cells e (opC o v))) 9 (.int .i64 x) = some (.skip (H.put b (some (.cells e (opC (o.s9 x) v))))) := stN_one b e (opC o v) 9 _ rfl (by show 9 < 11; decide)
theorem op_s10 (H : AH) (b : Nat) (e : TypeId) (o : OpV) (v : AV) (x : Int) : stN 1 H b (some (.cells e (opC o v))) 10 (.int .u32 x) = some (.skip (H.put b (some (.cells e (opC (o.s10 x) v))))) := stN_one b e (opC o v) 10 _ rfl (by show 10 < 11; decide)
theorem beq_int (k : IntKind) (z : Int) : AV.beq (.int k z) (.int k z) = true := by simp [AV.beq, eqZ_eq, kEq_iff]
theorem op_build (k : Int) : w_build PP 41 H [(0, .int .i64 k)] = some (.val (opA (OpV.zero.s0 k) (.slice none 0 0 true)) H) := by kernel_rfl
theorem op_build0 : w_build PP 41 H [] = some (.val (opA OpV.zero (.slice none 0 0 true)) H) := by kernel_rfl
theorem op_alloc : w_alloc 41 [(.int .i64 0), (.str []), (.str []), (.int .i64 0), (.int .i64 0), (.int .i64 0), (.int .i64 0), (.slice none 0 0 true), (.str []), (.int .i64 0), (.int .u32 0)] H none = some (.val (.ptr (some (H.next, 0))) (H.new (.cells 41 (opC OpV.zero (.slice none 0 0 true))))) := w_alloc_none _ _
end
end Go.Ab
