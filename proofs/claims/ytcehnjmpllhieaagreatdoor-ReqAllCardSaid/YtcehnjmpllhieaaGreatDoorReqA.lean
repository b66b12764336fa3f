/- Operations in memory: alike, bare, those that may be; a text is written. -/
import Derived.Test.YtcehnjmpllhieaaGreatDoorBinG
import Derived.Test.YtcehnjmpllhieaaGreatDoorMC
namespace Go.Ab
noncomputable section
open Go.Proofs
set_option maxRecDepth 10000
variable {H H' : AH}

/-! A text is appended. -/
theorem Own.append_of {e : TypeId} {sz B by_ : Nat} {s y : AV} {X Y : List (List AV)} (h : Own H e sz B s X) (hlA : lenA y = some Y.length) (hV : sliceCells H sz Y.length y = some Y.flatten) (hy : (∀ x ∈ Y, x.length = sz) ∧ (∀ x ∈ Y, x.all AV.known = true) ∧ ∀ x ∈ Y, x.all AV.one = true) (hz : 0 < sz) (hb : (2 * (X.length + Y.length) + 1024) * by_ ≤ 281474976710656) :
    ∃ s' H' B', w_append e sz by_ H s y none = some (.val s' H') ∧ Ext [B] H H' ∧ (B' = B ∨ H.next ≤ B') ∧ Own H' e sz B' s' (X ++ Y) := by
  obtain ⟨y1, y2, y3⟩ := hy
  have hXY : (∀ x ∈ X ++ Y, x.length = sz) ∧ (∀ x ∈ X ++ Y, x.all AV.known = true) ∧ (∀ x ∈ X ++ Y, x.all AV.one = true) := by
    refine ⟨fun x hx => ?_, fun x hx => ?_, fun x hx => ?_⟩ <;> rcases List.mem_append.1 hx with q | q
    · exact h.szs x q
    · exact y1 x q
    · exact h.known x q
    · exact y2 x q
    · exact h.one x q
    · exact y3 x q
  by_cases hY : Y = []
  · subst hY
    have hV0 : sliceCells H sz 0 y = some [] := hV
    refine ⟨s, H, B, ?_, Ext.refl _ _, .inl rfl, by rw [List.append_nil]; exact h⟩
    have hn : newCells sz y H = some (0, []) := by simp only [newCells, hlA, ob_some]; rw [show ([] : List (List AV)).length = 0 from rfl, hV0, ob_some]
    obtain ⟨rfl, rfl⟩ | ⟨o, c, ex, cs, rfl, h1, h2, h3, h4, h5, h6⟩ := h.ex
    · simp only [w_append, hn, ob2_some, appendTo]; rfl
    · have c1 : Nat.ble (Nat.add X.length 0) c = true := by simpa using h2
      simp only [w_append, hn, ob2_some, appendTo, c1, br_true, writeA, ob_some]; rfl
  · have hYl : 0 < Y.length := List.length_pos_iff.2 hY
    have hfl := flatten_len y1
    have hne : Y.flatten ≠ [] := fun q => by rw [q] at hfl; have := Nat.mul_pos hYl hz; simp at hfl; omega
    obtain ⟨rfl, rfl⟩ | ⟨o, c, ex, cs, rfl, h1, h2, h3, h4, h5, h6⟩ := h.ex
    · refine ⟨_, _, H.next, w_append_grow (L := []) hlA hV (by omega) (by simpa using hb) (sliceCells_nil sz 0 true 0), (Ext.refl _ _).new _, .inr (Nat.le_refl _), ⟨.inr ⟨0, 0 + Y.length, false, Y.flatten, ?_, get_new_same _ _, ?_, ?_, ?_, ?_, ?_⟩, hXY.1, hXY.2.1, hXY.2.2⟩⟩
      · rw [List.nil_append, Nat.zero_add]
      · simp
      · simp [hfl]
      · simp [hfl]
      · rw [List.nil_append, List.drop_zero, ← hfl, List.take_length]
      · rw [next_new]; omega
    · have hlX := flatten_len h.szs
      have hL : sliceCells H sz X.length (.slice (some (B, o)) X.length c ex) = some X.flatten :=
        sliceCells_cells h1 (Nat.le_refl _) (by have := Nat.mul_le_mul_right sz h2; omega) h5 (flatten_all h.known)
      have hfa : (X ++ Y).flatten = X.flatten ++ Y.flatten := List.flatten_append
      have hn : newCells sz y H = some (Y.length, Y.flatten) := by simp only [newCells, hlA, ob_some, hV]
      by_cases hr : X.length + Y.length ≤ c
      · have c1 : Nat.ble (Nat.add X.length Y.length) c = true := by simpa using hr
        have hm := Nat.mul_le_mul_right sz hr
        rw [Nat.add_mul] at hm
        have hw := writeA_eq (o := o + X.length * sz) h1 hne (by rw [hfl]; omega)
        refine ⟨.slice (some (B, o)) (X.length + Y.length) c ex, H.put B (some (.cells e (cs.take (o + X.length * sz) ++ (Y.flatten ++ cs.drop (o + X.length * sz + Y.flatten.length))))), B, ?_, (Ext.refl _ _).put (.inr (by simp)) _, .inl rfl, ⟨.inr ⟨o, c, ex, _, by rw [List.length_append], get_put_same _ _, by rw [List.length_append]; exact hr, ?_, fun q => ?_, ?_, ?_⟩, hXY.1, hXY.2.1, hXY.2.2⟩⟩
        · simp only [w_append, hn, ob2_some, appendTo, c1, br_true]
          show ob (writeA H B (o + X.length * sz) Y.flatten) _ = _
          rw [hw, ob_some]; rfl
        · rw [splice_length _ _ _ (by rw [hfl]; omega)]; exact h3
        · rw [splice_length _ _ _ (by rw [hfl]; omega)]; exact h4 q
        · refine seg_eq (by rw [hfa, List.length_append, hlX, hfl, List.length_append, Nat.add_mul]) fun t ht => ?_
          rw [List.length_append, Nat.add_mul] at ht
          rw [splice_get _ _ _ _ (by rw [hfl]; omega), hfa]
          by_cases q : t < X.length * sz
          · rw [if_pos (by omega), List.getElem?_append_left (by rw [hlX]; exact q), ← h5, List.getElem?_take, if_pos q, List.getElem?_drop]
          · rw [if_neg (by omega), if_pos (by rw [hfl]; omega), List.getElem?_append_right (by rw [hlX]; omega), hlX]
            congr 1; omega
        · rw [AH.next_put]; exact h6
      · have c1 : Nat.ble (Nat.add X.length Y.length) c = false := Bool.eq_false_iff.2 fun q => hr (Nat.le_of_ble_eq_true q)
        have c2 : Nat.ble (Nat.mul (Nat.add (Nat.mul 2 (Nat.add X.length Y.length)) 1024) by_) 281474976710656 = true := by simpa using hb
        have fin : ∀ G : AH, G.next = H.next → Own (G.new (.cells e (X.flatten ++ Y.flatten))) e sz H.next (.slice (some (H.next, 0)) (X.length + Y.length) (X.length + Y.length) false) (X ++ Y) := by
          intro G hG
          have hll : (X.flatten ++ Y.flatten).length = (X.length + Y.length) * sz := by rw [List.length_append, hlX, hfl, Nat.add_mul]
          refine ⟨.inr ⟨0, _, _, _, by rw [List.length_append], by rw [← hG]; exact get_new_same _ _, by rw [List.length_append]; exact Nat.le_refl _, by rw [hll]; omega, fun _ => by rw [hll]; omega, ?_, by rw [next_new]; omega⟩, hXY.1, hXY.2.1, hXY.2.2⟩
          rw [List.drop_zero, hfa, List.take_of_length_le (by rw [hll, List.length_append]; exact Nat.le_refl _)]
        cases ex with
        | true =>
          refine ⟨_, _, H.next, w_append_grow hlA hV (by omega) hb hL, (Ext.refl _ _).new _, .inr (Nat.le_refl _), fin H rfl⟩
        | false =>
          have c3 : Nat.ble X.length c = true := by simpa using h2
          have c4 : lenN cs (Nat.add o (Nat.mul c sz)) = true := (lenN_iff _ _).2 (h4 rfl)
          have c5 : Nat.beq e e = true := Nat.beq_refl e
          refine ⟨.slice (some (H.next, 0)) (X.length + Y.length) (X.length + Y.length) false, (H.put B none).new (.cells e (X.flatten ++ Y.flatten)), H.next, ?_, ((Ext.refl _ _).put (.inr (by simp)) _).new _, .inr (Nat.le_refl _), fin (H.put B none) rfl⟩
          simp only [w_append, hn, ob2_some, appendTo, c1, br_false, c2, br_true, hL, ob_some, c3, killTo, cellsTo, h1, c4, c5, AH.putTo_eq, openNew, newTo_none_eq, joinL_eq]
          rfl
theorem str_flat : ∀ t : List UInt8, (nums .u8 (unT t)).flatten = t.map fun b => AV.int .u8 b.toNat
  | [] => rfl
  | b :: t => by
    have ih := str_flat t
    show AV.int .u8 b.toNat :: (nums .u8 (unT t)).flatten = _
    rw [ih]; rfl
theorem os_text {B : Nat} {s : AV} {L : List Int} (o : Os 5 .u8 H B s L) (t : List UInt8) (hl : L.length + t.length ≤ 100000) :
    ∃ s' H' B', w_append 5 1 1 H s (.str t) none = some (.val s' H') ∧ Ext [B] H H' ∧ (B' = B ∨ H.next ≤ B') ∧ Os 5 .u8 H' B' s' (L ++ unT t) := by
  obtain ⟨s', H', B', e1, e2, e3, e4⟩ := Own.append_of (by_ := 1) (y := .str t) (Y := nums .u8 (unT t)) o (by show some t.length = _; rw [List.length_map, unT_len]) (by
    show some ((t.take (nums .u8 (unT t)).length).map fun b => AV.int .u8 b.toNat) = _
    rw [List.length_map, unT_len, List.take_length, str_flat]) ⟨fun x hx => by obtain ⟨y, _, rfl⟩ := List.mem_map.1 hx; rfl, fun x hx => by obtain ⟨y, _, rfl⟩ := List.mem_map.1 hx; rfl, fun x hx => by obtain ⟨y, _, rfl⟩ := List.mem_map.1 hx; rfl⟩ (by decide) (by
    simp only [List.length_map, unT_len]; omega)
  refine ⟨s', H', B', e1, e2, e3, ?_⟩
  show Own _ _ _ _ _ _
  rw [show nums .u8 (L ++ unT t) = nums .u8 L ++ nums .u8 (unT t) from List.map_append]; exact e4
theorem len_str (t : List UInt8) : w_len PP 9 H (.str t) = some (.val (.int .i64 t.length) H) := by kernel_rfl
theorem neq_wr (b o : Nat) : w_eq PP .neq 87 false true H (.ptr (some (b, o))) (.ptr none) = some (.val (.bool true) H) := by kernel_rfl
theorem wText_wp {M : List Nat} {H0 : AH} {wp : Nat} {L : List Int} (h : Wx M H0 H wp L) (hL : L.length ≤ 5000) (t : List UInt8) (ht : t.length ≤ 1000) (K : AV → AH → Prop) (hK : ∀ H', Wx M H0 H' wp (L ++ encT t) → K (.tup []) H') :
    CC.call 43 [.ptr (some (wp, 0)), .str t] H K := by
  refine m_bin_Writer_Text_ok _ _ _ _ ?_
  unfold m_bin_Writer_Text
  rw [neq_wr, outP_val, condP_true, len_str, outP_val]
  refine wOne_wp h (by omega) ⟨by omega, by omega⟩ _ fun G1 w1 => ?_
  obtain ⟨B, s, ld, gw, os, hB, hBw⟩ := w1.ld
  have le := encZ_le (n := (t.length : Int)) ⟨by omega, by omega⟩
  obtain ⟨s', G2, B', e1, e2, e3, e4⟩ := os_text os t (by rw [List.length_append]; omega)
  obtain ⟨G3, st3, w3⟩ := w1.stored gw hB hBw e2 e3 e4
  rw [w_nil_ptr, outP_val, w_fieldAddr_ptr, outP_val, Nat.add_zero, ld G1 rfl, outP_val, e1, outP_val, w_nil_ptr, outP_val, w_fieldAddr_ptr, outP_val, Nat.add_zero, st3, outP_skip]
  rw [List.append_assoc] at w3
  exact hK _ w3

/-! Operations. -/
def opC (o : OpV) (v : AV) : List AV := [.int .i64 o.kind, .str o.col, .str o.name, .int .i64 o.id, .int .i64 o.dim, .int .i64 o.metric, .int .i64 o.index, v, .str o.pay, .int .i64 o.k, .int .u32 o.draw]
abbrev opA (o : OpV) (v : AV) : AV := .agg (opC o v)
/-- A slice of numbers, as a field. -/
structure VecF (H : AH) (b : Nat) (v : AV) (V : List Int) : Prop where
  is : Is .i32 H b v V
  len : V.length ≤ 9223372036854775807
theorem VecF.mono {b : Nat} {v : AV} {V : List Int} (h : VecF H b v V) (e : Ext [] H H') : VecF H' b v V := ⟨Sl.mono h.is e (by simp), h.len⟩
theorem vecF_nil (H : AH) (b : Nat) : VecF H b (.slice none 0 0 true) [] := ⟨⟨.inl ⟨.inl rfl, rfl⟩⟩, by simp⟩
theorem VecF.slk {b : Nat} {v : AV} {V : List Int} (h : VecF H b v V) : SlK v := Sl.slk h.is
theorem slk_facts {v : AV} (h : SlK v) : v.one = true ∧ clearA v = some v ∧ v.known = true := by
  rcases h with rfl | ⟨_, _, rfl⟩ | ⟨_, _, _, _, _, rfl⟩ <;> exact ⟨rfl, rfl, rfl⟩
theorem op_len (o : OpV) (v : AV) : (opC o v).length = 11 := rfl
theorem op_one (o : OpV) {v : AV} (h : v.one = true) : (opC o v).all AV.one = true := by show (v.one && true) = true; rw [h]; rfl
theorem op_known (o : OpV) {v : AV} (h : v.known = true) : (opC o v).all AV.known = true := by show (v.known && true) = true; rw [h]; rfl
theorem op_f0 (e : TypeId) (o : OpV) (v : AV) : ldV (some (.cells e (opC o v))) 0 = some (.int .i64 o.kind) := rfl
theorem op_f1 (e : TypeId) (o : OpV) (v : AV) : ldV (some (.cells e (opC o v))) 1 = some (.str o.col) := rfl
theorem op_f2 (e : TypeId) (o : OpV) (v : AV) : ldV (some (.cells e (opC o v))) 2 = some (.str o.name) := rfl
theorem op_f3 (e : TypeId) (o : OpV) (v : AV) : ldV (some (.cells e (opC o v))) 3 = some (.int .i64 o.id) := rfl
theorem op_f4 (e : TypeId) (o : OpV) (v : AV) : ldV (some (.cells e (opC o v))) 4 = some (.int .i64 o.dim) := rfl
theorem op_f5 (e : TypeId) (o : OpV) (v : AV) : ldV (some (.cells e (opC o v))) 5 = some (.int .i64 o.metric) := rfl
theorem op_f6 (e : TypeId) (o : OpV) (v : AV) : ldV (some (.cells e (opC o v))) 6 = some (.int .i64 o.index) := rfl
theorem op_f7 (e : TypeId) (o : OpV) {v : AV} (h : clearA v = some v) : ldV (some (.cells e (opC o v))) 7 = some v := h
theorem op_f8 (e : TypeId) (o : OpV) (v : AV) : ldV (some (.cells e (opC o v))) 8 = some (.str o.pay) := rfl
theorem op_f9 (e : TypeId) (o : OpV) (v : AV) : ldV (some (.cells e (opC o v))) 9 = some (.int .i64 o.k) := rfl
theorem op_f10 (e : TypeId) (o : OpV) (v : AV) : ldV (some (.cells e (opC o v))) 10 = some (.int .u32 o.draw) := rfl
theorem ld11 (e : TypeId) {cs : List AV} (hl : cs.length = 11) (hk : cs.all AV.known = true) : ldN 11 (some (.cells e cs)) 0 = some (.agg cs) := by
  refine ldN_of (fun q => by rw [q] at hl; cases hl) hl (fun i v h => ?_) hk
  rw [Nat.zero_add]
  exact h
theorem st11 (b : Nat) (e : TypeId) {cs l : List AV} (hc : cs.length = 11) (hl : l.length = 11) (h1 : l.all AV.one = true) : stN 11 H b (some (.cells e cs)) 0 (.agg l) = some (.skip (H.put b (some (.cells e l)))) := by
  rw [stN_cells b e cs 0 (.agg l) ⟨hl, h1, fun q => by rw [show (AV.agg l).parts = l from rfl] at q; rw [q] at hl; cases hl⟩ (by omega), show (AV.agg l).parts = l from rfl, List.take_zero, List.nil_append, List.drop_of_length_le (by omega), List.append_nil]
theorem res11 {b : Nat} {e : TypeId} {l : List AV} (h : H.get b = some (.cells e l)) (hl : l.length = 11) (hk : l.all AV.known = true) (r : Option (List AV)) : resR (partF (some (some 11))) H (.ptr (some (b, 0))) r = ob r fun q => some (.agg l :: q) := by
  have e1 : cut l 0 11 = some l := by rw [cut_eq, if_pos (by omega), List.drop_zero, List.take_of_length_le (by omega)]
  simp only [resR, partF, ob_some, onPtr, cellsTo, h]
  rw [e1, ob_some, ob_some]
  simp only [clearA, allB_eq, hk, br_true, ob_some]
theorem end11 {b : Nat} {e : TypeId} {l : List AV} (h : H.get b = some (.cells e l)) (hl : l.length = 11) (hk : l.all AV.known = true) (K : AV → AH → Prop) : endP (resR (partF (some (some 11))) H (.ptr (some (b, 0))) (some [])) K H = K (.agg l) H := by
  rw [res11 h hl hk]; rfl
theorem end11' {b : Nat} {e : TypeId} {l : List AV} (h : H.get b = some (.cells e l)) (hl : l.length = 11) (hk : l.all AV.known = true) (r : AV) (K : AV → AH → Prop) : endP (resR (partF (some (some 11))) H (.ptr (some (b, 0))) (resT r (some []))) K H = K (.tup [.agg l, r]) H := by
  rw [res11 h hl hk]; rfl
theorem op_box (o : OpV) {v : AV} (h : v.one = true) (e : TypeId) : w_box e H (opA o v) none = some (.val (.ptr (some (H.next, 0))) (H.new (.cells e (opC o v)))) := w_box_one (op_one o h)
theorem beq_op (o : OpV) {v : AV} (h : SlK v) : AV.beq (opA o v) (opA o v) = true := by
  simp [opC, AV.beq, AV.beqL, kEq_iff, eqZ_eq, strEq_eq, beq_slk h]

theorem is_wp (n : Int) (K : AV → AH → Prop) (hK : K (.bool (decide (1 ≤ n) && decide (n ≤ 15))) H) : CC.call 46 [.int .i64 n] H K := by
  refine m_req_is_ok _ _ _ ?_
  unfold m_req_is
  by_cases c : 1 ≤ n
  · have d := decide_eq_true c
    rw [d, Bool.true_and] at hK
    repeat (first | rw [outP_val] | rw [guardP_true] | rw [d] | rw [boolIs_bool] | rw [beq_tt] | rw [w_pick_b] | rw [if_pos rfl] | rw [w_leq] | rw [w_geq])
    exact hK
  · have d := decide_eq_false c
    rw [d, Bool.false_and] at hK
    repeat (first | rw [outP_val] | rw [guardP_false] | rw [d] | rw [boolIs_bool] | rw [beq_tt] | rw [w_pick_b] | rw [if_neg Bool.false_ne_true] | rw [w_geq])
    exact hK
theorem same_wp {b b' : Nat} {v v' : AV} (o o' : OpV) (h : VecF H b v o.vec) (h' : VecF H b' v' o'.vec) (K : AV → AH → Prop) (hK : ∀ H', Ext [] H H' → K (.bool (eqV o o')) H') : CC.call 47 [opA o v, opA o' v'] H K := by
  refine m_req_same_ok _ _ _ _ ?_
  unfold m_req_same
  obtain ⟨f1, f2, f3⟩ := slk_facts h.slk
  obtain ⟨f1', f2', f3'⟩ := slk_facts h'.slk
  rw [op_box o f1, outP_val, op_box o' f1', outP_val]
  have x1 : Ext [] H ((H.new (.cells 26 (opC o v))).new (.cells 26 (opC o' v'))) := ((Ext.refl _ _).new _).new _
  have g1 : ((H.new (.cells 26 (opC o v))).new (.cells 26 (opC o' v'))).get H.next = some (.cells 26 (opC o v)) := by
    rw [get_new_ne _ (by rw [next_new]; omega), get_new_same]
  have g2 := get_new_same (H.new (.cells 26 (opC o v))) (.cells 26 (opC o' v'))
  rw [show (H.new (.cells 26 (opC o v))).next = H.next + 1 from rfl] at g2 ⊢
  generalize (H.new (.cells 26 (opC o v))).new (.cells 26 (opC o' v')) = G at *
  have fin : ∀ b, b = eqV o o' → K (.bool b) G := fun b hb => by rw [hb]; exact hK _ x1
  repeat (first | rw [outP_val] | rw [g1] | rw [g2] | rw [op_f0] | rw [boolIs_bool] | rw [beq_tt] | rw [w_fieldAddr_ptr] | rw [Nat.zero_add] | rw [w_load_c] | rw [vO_some] | rw [w_eql])
  by_cases c0 : o.kind = o'.kind
  case neg =>
    rw [decide_eq_false c0]
    repeat (first | rw [outP_val] | rw [guardP_false] | rw [boolIs_bool] | rw [beq_tt] | rw [w_pick_b] | rw [if_neg Bool.false_ne_true])
    exact fin _ (by simp [eqV, c0])
  rw [decide_eq_true c0]
  repeat (first | rw [outP_val] | rw [guardP_true] | rw [g1] | rw [g2] | rw [op_f1] | rw [w_str_eq] | rw [boolIs_bool] | rw [beq_tt] | rw [w_pick_b] | rw [if_pos rfl] | rw [w_fieldAddr_ptr] | rw [Nat.zero_add] | rw [w_load_c] | rw [vO_some])
  by_cases c1 : o.col = o'.col
  case neg =>
    rw [decide_eq_false c1]
    repeat (first | rw [outP_val] | rw [guardP_false] | rw [boolIs_bool] | rw [beq_tt] | rw [w_pick_b] | rw [if_neg Bool.false_ne_true])
    exact fin _ (by simp [eqV, c1])
  rw [decide_eq_true c1]
  repeat (first | rw [outP_val] | rw [guardP_true] | rw [g1] | rw [g2] | rw [op_f2] | rw [w_str_eq] | rw [boolIs_bool] | rw [beq_tt] | rw [w_pick_b] | rw [if_pos rfl] | rw [w_fieldAddr_ptr] | rw [Nat.zero_add] | rw [w_load_c] | rw [vO_some])
  by_cases c2 : o.name = o'.name
  case neg =>
    rw [decide_eq_false c2]
    repeat (first | rw [outP_val] | rw [guardP_false] | rw [boolIs_bool] | rw [beq_tt] | rw [w_pick_b] | rw [if_neg Bool.false_ne_true])
    exact fin _ (by simp [eqV, c2])
  rw [decide_eq_true c2]
  repeat (first | rw [outP_val] | rw [guardP_true] | rw [g1] | rw [g2] | rw [op_f3] | rw [boolIs_bool] | rw [beq_tt] | rw [w_pick_b] | rw [if_pos rfl] | rw [w_fieldAddr_ptr] | rw [Nat.zero_add] | rw [w_load_c] | rw [vO_some] | rw [w_eql])
  by_cases c3 : o.id = o'.id
  case neg =>
    rw [decide_eq_false c3]
    repeat (first | rw [outP_val] | rw [guardP_false] | rw [boolIs_bool] | rw [beq_tt] | rw [w_pick_b] | rw [if_neg Bool.false_ne_true])
    exact fin _ (by simp [eqV, c3])
  rw [decide_eq_true c3]
  repeat (first | rw [outP_val] | rw [guardP_true] | rw [g1] | rw [g2] | rw [op_f4] | rw [boolIs_bool] | rw [beq_tt] | rw [w_pick_b] | rw [if_pos rfl] | rw [w_fieldAddr_ptr] | rw [Nat.zero_add] | rw [w_load_c] | rw [vO_some] | rw [w_eql])
  by_cases c4 : o.dim = o'.dim
  case neg =>
    rw [decide_eq_false c4]
    repeat (first | rw [outP_val] | rw [guardP_false] | rw [boolIs_bool] | rw [beq_tt] | rw [w_pick_b] | rw [if_neg Bool.false_ne_true])
    exact fin _ (by simp [eqV, c4])
  rw [decide_eq_true c4]
  repeat (first | rw [outP_val] | rw [guardP_true] | rw [g1] | rw [g2] | rw [op_f5] | rw [boolIs_bool] | rw [beq_tt] | rw [w_pick_b] | rw [if_pos rfl] | rw [w_fieldAddr_ptr] | rw [Nat.zero_add] | rw [w_load_c] | rw [vO_some] | rw [w_eql])
  by_cases c5 : o.metric = o'.metric
  case neg =>
    rw [decide_eq_false c5]
    repeat (first | rw [outP_val] | rw [guardP_false] | rw [boolIs_bool] | rw [beq_tt] | rw [w_pick_b] | rw [if_neg Bool.false_ne_true])
    exact fin _ (by simp [eqV, c5])
  rw [decide_eq_true c5]
  repeat (first | rw [outP_val] | rw [guardP_true] | rw [g1] | rw [g2] | rw [op_f6] | rw [boolIs_bool] | rw [beq_tt] | rw [w_pick_b] | rw [if_pos rfl] | rw [w_fieldAddr_ptr] | rw [Nat.zero_add] | rw [w_load_c] | rw [vO_some] | rw [w_eql])
  by_cases c6 : o.index = o'.index
  case neg =>
    rw [decide_eq_false c6]
    repeat (first | rw [outP_val] | rw [guardP_false] | rw [boolIs_bool] | rw [beq_tt] | rw [w_pick_b] | rw [if_neg Bool.false_ne_true])
    exact fin _ (by simp [eqV, c6])
  rw [decide_eq_true c6]
  repeat (first | rw [outP_val] | rw [guardP_true] | rw [g1] | rw [g2] | rw [op_f7 _ _ f2] | rw [op_f7 _ _ f2'] | rw [w_fieldAddr_ptr] | rw [Nat.zero_add] | rw [w_load_c] | rw [vO_some])
  rw [outP_enter]
  refine vecEq_wp (h.mono x1).is (h'.mono x1).is h.len _ ?_
  repeat (first | rw [outP_val] | rw [boolIs_bool] | rw [beq_tt] | rw [w_pick_b] | rw [if_pos rfl] | rw [w_fieldAddr_ptr] | rw [Nat.zero_add])
  by_cases c7 : o.vec = o'.vec
  case neg =>
    rw [decide_eq_false c7]
    repeat (first | rw [outP_val] | rw [guardP_false] | rw [boolIs_bool] | rw [beq_tt] | rw [w_pick_b] | rw [if_neg Bool.false_ne_true])
    exact fin _ (by simp [eqV, c7])
  rw [decide_eq_true c7]
  repeat (first | rw [outP_val] | rw [guardP_true] | rw [g1] | rw [g2] | rw [op_f8] | rw [w_str_eq] | rw [boolIs_bool] | rw [beq_tt] | rw [w_pick_b] | rw [if_pos rfl] | rw [w_fieldAddr_ptr] | rw [Nat.zero_add] | rw [w_load_c] | rw [vO_some])
  by_cases c8 : o.pay = o'.pay
  case neg =>
    rw [decide_eq_false c8]
    repeat (first | rw [outP_val] | rw [guardP_false] | rw [boolIs_bool] | rw [beq_tt] | rw [w_pick_b] | rw [if_neg Bool.false_ne_true])
    exact fin _ (by simp [eqV, c8])
  rw [decide_eq_true c8]
  repeat (first | rw [outP_val] | rw [guardP_true] | rw [g1] | rw [g2] | rw [op_f9] | rw [boolIs_bool] | rw [beq_tt] | rw [w_pick_b] | rw [if_pos rfl] | rw [w_fieldAddr_ptr] | rw [Nat.zero_add] | rw [w_load_c] | rw [vO_some] | rw [w_eql])
  by_cases c9 : o.k = o'.k
  case neg =>
    rw [decide_eq_false c9]
    repeat (first | rw [outP_val] | rw [guardP_false] | rw [w_pick_b] | rw [if_neg Bool.false_ne_true])
    exact fin _ (by simp [eqV, c9])
  rw [decide_eq_true c9]
  repeat (first | rw [outP_val] | rw [guardP_true] | rw [g1] | rw [g2] | rw [op_f10] | rw [w_pick_b] | rw [if_pos rfl] | rw [w_fieldAddr_ptr] | rw [Nat.zero_add] | rw [w_load_c] | rw [vO_some] | rw [w_eql])
  exact fin _ (by simp [eqV, c0, c1, c2, c3, c4, c5, c6, c7, c8, c9])
end
end Go.Ab
