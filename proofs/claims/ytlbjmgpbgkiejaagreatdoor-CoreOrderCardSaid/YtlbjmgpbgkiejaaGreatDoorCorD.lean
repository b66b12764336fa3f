/- core: one collection; what it tells of blocks. -/
import Derived.Test.YtlbjmgpbgkiejaaGreatDoorIdxW
import Derived.Test.YtlbjmgpbgkiejaaGreatDoorMK
import Derived.Test.YtlbjmgpbgkiejaaGreatDoorReqA
namespace Go.Ab
noncomputable section
open Go.Proofs
set_option maxRecDepth 10000
variable {H H' : AH}

/-! Maps by texts: none or one entry. -/
theorem str_und : PP.underlying 9 = some .string := by kernel_rfl
theorem w_look0 {et : TypeId} {z : AV} (hz : zeroA PP et = some z) {m clk : Nat} (h : H.get m = some (.mp [] clk)) (k : List UInt8) (ok : Bool) :
    w_lookup PP 9 et ok H (.map (some m)) (.str k) = some (.val (br ok (.tup [z, .bool false]) z) H) := by
  simp only [w_lookup, oLookup, keyT, str_und, hz, val_mk, br_true, entriesTo, mpTo, h, findA_nil, ob_some]
  rfl
theorem w_look1 {et : TypeId} {z v : AV} (hz : zeroA PP et = some z) {m clk b : Nat} {a : List UInt8} (h : H.get m = some (.mp [(.str a, v, b)] clk)) (k : List UInt8) :
    w_lookup PP 9 et false H (.map (some m)) (.str k) = some (.val (if k = a then v else z) H) := by
  have q : keyEq (.str k) (.str a) = some (decide (k = a)) := by
    show some (strEq k a) = _
    have h : strEq k a = decide (k = a) := by rw [Bool.eq_iff_iff, strEq_eq, beq_iff_eq, decide_eq_true_iff]
    rw [h]
  simp only [w_lookup, oLookup, keyT, str_und, hz, val_mk, br_true, entriesTo, mpTo, h, findA_cons, findA_nil, q, ob_some, br_false]
  by_cases c : k = a
  · rw [decide_eq_true c, if_pos c]; rfl
  · rw [decide_eq_false c, if_neg c]; rfl
theorem w_new1 {et : TypeId} {m clk : Nat} (h : H.get m = some (.mp [] clk)) (k : List UInt8) (v : AV) :
    w_mapUpdate PP 9 et H (.map (some m)) (.str k) v = some (.skip (H.put m (some (.mp [(.str k, v, clk)] (clk + 1))))) := by
  simp only [w_mapUpdate, oMapUpdate, keyT, str_und, val_mk, br_true, mapPut, mpTo, h, findA_nil, ob_some, AH.putTo_eq]
  rfl
theorem w_range1 {t : Option (TypeId × TypeId)} (ht : t.isSome = true) {m clk : Nat} {es : List (AV × AV × Nat)} (h : H.get m = some (.mp es clk)) : w_range t H (.map (some m)) none = some (.val (.ptr (some (H.next, 0))) (H.new (.iter (some m) clk [] clk))) := by
  obtain ⟨t, rfl⟩ := Option.isSome_iff_exists.1 ht
  simp only [w_range, oRange, val_mk, mpTo, h, newTo_none_eq]
theorem next_none {i m clk : Nat} (hi : H.get i = some (.iter (some m) clk [] clk)) (hm : H.get m = some (.mp [] clk)) : w_next H (.ptr (some (i, 0))) = some (.val (.tup [.bool false]) H) := by
  have e : Nat.ble clk clk = true := Nat.ble_eq_true_of_le (Nat.le_refl _)
  show br (Nat.beq 0 0) (itTo none H i _) none = _
  rw [show Nat.beq 0 0 = true from rfl, br_true]
  unfold itTo
  rw [hi]
  show nextE H i m clk [] clk = _
  unfold nextE mpTo
  rw [hm]
  show br (Nat.ble clk clk) _ none = _
  rw [e, br_true]
  rfl
theorem next_one {i m clk b : Nat} {k v : AV} (hi : H.get i = some (.iter (some m) clk [] clk)) (hm : H.get m = some (.mp [(k, v, b)] clk)) (hb : b < clk) : w_next H (.ptr (some (i, 0))) = some (.val (.tup [.bool true, k, v]) (H.put i (some (.iter (some m) clk [b] clk)))) := by
  have e : Nat.ble clk clk = true := Nat.ble_eq_true_of_le (Nat.le_refl _)
  have e2 : Nat.blt b clk = true := Nat.ble_eq_true_of_le hb
  show br (Nat.beq 0 0) (itTo none H i _) none = _
  rw [show Nat.beq 0 0 = true from rfl, br_true]
  unfold itTo
  rw [hi]
  show nextE H i m clk [] clk = _
  unfold nextE mpTo
  rw [hm]
  show br (Nat.ble clk clk) (br (br (Nat.blt b clk) true false) _ none) none = _
  rw [e, br_true, e2, br_true, br_true]
  have el : leftE [] [(k, v, b)] = [(k, v, b)] := rfl
  rw [el]
  show H.putTo i (some (.iter (some m) clk [b] clk)) (fun H' => some (Out.val (AV.tup [AV.bool true, k, v]) H')) = _
  rw [AH.putTo_eq]
theorem next_done {i m clk b : Nat} {k v : AV} (hi : H.get i = some (.iter (some m) clk [b] clk)) (hm : H.get m = some (.mp [(k, v, b)] clk)) (hb : b < clk) : w_next H (.ptr (some (i, 0))) = some (.val (.tup [.bool false]) H) := by
  have e : Nat.ble clk clk = true := Nat.ble_eq_true_of_le (Nat.le_refl _)
  have e2 : Nat.blt b clk = true := Nat.ble_eq_true_of_le hb
  have e3 : Nat.beq b b = true := Nat.beq_refl b
  show br (Nat.beq 0 0) (itTo none H i _) none = _
  rw [show Nat.beq 0 0 = true from rfl, br_true]
  unfold itTo
  rw [hi]
  show nextE H i m clk [b] clk = _
  unfold nextE mpTo
  rw [hm]
  show br (Nat.ble clk clk) (br (br (Nat.blt b clk) true false) (onCons _ _ (br (br (Nat.beq b b) true false) [] [(k, v, b)])) none) none = _
  rw [e, br_true, e2, br_true, br_true, e3, br_true, br_true]
  rfl
theorem entry_one {i m clk b : Nat} {k v : AV} (hi : H.get i = some (.iter (some m) clk [b] clk)) (hm : H.get m = some (.mp [(k, v, b)] clk)) : w_entry H (.ptr (some (i, 0))) = some (.val (.tup [k, v]) H) := by
  have e : Nat.beq clk clk = true := Nat.beq_refl clk
  have e3 : Nat.beq b b = true := Nat.beq_refl b
  show br (Nat.beq 0 0) (itTo none H i _) none = _
  rw [show Nat.beq 0 0 = true from rfl, br_true]
  unfold itTo
  rw [hi]
  show mpTo none H m _ = _
  unfold mpTo
  rw [hm]
  show br (Nat.beq clk clk) (ob (br (Nat.beq b b) (some (k, v, b)) none) _) none = _
  rw [e, br_true, e3, br_true]
  rfl
end
end Go.Ab
/- core: one collection; what it tells of blocks; whether something can be put. -/
namespace Go.Ab
noncomputable section
open Go.Proofs
set_option maxRecDepth 10000
variable {H H' : AH}

abbrev corC (seq : Int) (mc ma : Nat) : List AV := [.int .i64 seq, .map (some mc), .map (some ma), .ptr none, .str [], .int .i64 0, .int .i64 0, .int .i64 0]
abbrev colC (s ix : Nat) : List AV := [.int .i64 0, .int .i64 2, .int .i64 1, .ptr (some (s, 0)), .ptr (some (ix, 0))]
/-- A core with one collection, a: of two numbers, by distance, all looked at. -/
structure C1 (H : AH) (c mc ma x s ms ix f mf : Nat) (seq : Int) (L : Ls) : Prop where
  hc : H.get c = some (.cells 81 (corC seq mc ma))
  hmc : ∃ clk b0, H.get mc = some (.mp [(.str [97], .ptr (some (x, 0)), b0)] clk) ∧ b0 < clk
  hma : ∃ clk, H.get ma = some (.mp [] clk)
  hx : H.get x = some (.cells 87 (colC s ix))
  st : Sto [c, ms, mf] H s ms L
  ix : Flt H ix f mf 1 2
  cl : c < H.next
  mcl : mc < H.next
  mal : ma < H.next
  xl : x < H.next
  n1 : ma ≠ ms
  n2 : ma ≠ mf
  n3 : ms ≠ mf
  n4 : mc ≠ ms
  n5 : mc ≠ mf
variable {c mc ma x s ms ix f mf : Nat} {seq : Int} {L : Ls}
theorem C1.mono0 (h : C1 H c mc ma x s ms ix f mf seq L) (e : Ext [] H H') : C1 H' c mc ma x s ms ix f mf seq L := by
  obtain ⟨clk, b0, q1, q2⟩ := h.hmc
  obtain ⟨clk', q3⟩ := h.hma
  have n := e.next
  have := h.cl
  have := h.mcl
  have := h.mal
  have := h.xl
  exact ⟨e.get h.cl (by simp) h.hc, ⟨clk, b0, e.get h.mcl (by simp) q1, q2⟩, ⟨clk', e.get h.mal (by simp) q3⟩, e.get h.xl (by simp) h.hx, h.st.mono0 e, h.ix.mono e (by simp) (by simp) (by simp), by omega, by omega, by omega, by omega, h.n1, h.n2, h.n3, h.n4, h.n5⟩
theorem neq_mv : w_eq PP .neq 79 false true H (.ptr none) (.ptr none) = some (.val (.bool false) H) := by kernel_rfl
theorem eq_cor (b o : Nat) : w_eq PP .eql 24 false true H (.ptr (some (b, o))) (.ptr none) = some (.val (.bool false) H) := by kernel_rfl
theorem eq_col (b o : Nat) : w_eq PP .eql 83 false true H (.ptr (some (b, o))) (.ptr none) = some (.val (.bool false) H) := by kernel_rfl
theorem eq_col0 : w_eq PP .eql 83 false true H (.ptr none) (.ptr none) = some (.val (.bool true) H) := by kernel_rfl
theorem col_zero : zeroA PP 83 = some (.ptr none) := by kernel_rfl
theorem beq_intK (k : IntKind) (n : Int) : AV.beq (.int k n) (.int k n) = true := by simp [AV.beq, kEq_iff, eqZ_eq]
theorem beq_ptr (b o : Nat) : AV.beq (.ptr (some (b, o))) (.ptr (some (b, o))) = true := by simp [AV.beq]
theorem moves_wp (hc : H.get c = some (.cells 81 (corC seq mc ma))) (a : List UInt8) (K : AV → AH → Prop) (hK : K (.bool false) H) : CQ.call 92 [.ptr (some (c, 0)), .str a] H K := by
  refine m_core_Core_moves_ok _ _ _ _ ?_
  unfold m_core_Core_moves
  have l3 : ldV (H.get c) 3 = some (.ptr none) := by rw [hc]; rfl
  repeat (first | rw [outP_val] | rw [guardP_false] | rw [l3] | rw [neq_mv] | rw [boolIs_bool] | rw [beq_tt] | rw [w_pick_b] | rw [if_neg Bool.false_ne_true] | rw [w_fieldAddr_ptr] | rw [w_nil_ptr] | rw [Nat.zero_add] | rw [w_load_c] | rw [vO_some])
  exact hK
theorem throttled_wp (hc : H.get c = some (.cells 81 (corC seq mc ma))) (a : List UInt8) (K : AV → AH → Prop) (hK : K (.bool false) H) : CQ.call 200 [.ptr (some (c, 0)), .str a] H K := by
  refine m_core_Core_throttled_ok _ _ _ _ ?_
  unfold m_core_Core_throttled
  rw [outP_enter]
  refine moves_wp hc a _ ?_
  repeat (first | rw [outP_val] | rw [guardP_false] | rw [boolIs_bool] | rw [beq_tt] | rw [w_pick_b] | rw [if_neg Bool.false_ne_true])
  exact hK
theorem free_of {k : Int} (h0 : 0 ≤ k) (h1 : k ≤ 64) : ((sizeP (startP 64) 0 k).1.free.length : Int) = 64 - k := by
  have e1 : (startP 64).free.length = 64 := by simp [startP]
  have e2 : (startP 64).of 0 = [] := rfl
  unfold sizeP
  rw [e1, e2, if_neg (by omega), if_neg (by simp; omega)]
  by_cases c : 0 < k
  · rw [if_pos (by simpa using c)]
    show ((sortZ _).length : Int) = _
    rw [(sortZ_perm _).length_eq, List.length_drop, e1]
    simp; omega
  · rw [if_neg (by simpa using c)]
    show ((sortZ _).length : Int) = _
    rw [(sortZ_perm _).length_eq]
    simp [e1]; omega
theorem blk_in {n : Int} (h0 : 0 ≤ n) (h1 : n ≤ 200) : 0 ≤ blkN 8 n ∧ blkN 8 n ≤ 26 := by
  unfold blkN; split <;> omega
theorem blk_step {n : Int} (_h0 : 0 ≤ n) : blkN 8 n ≤ blkN 8 (n + 1) ∧ blkN 8 (n + 1) ≤ blkN 8 n + 1 := by
  unfold blkN; split <;> split <;> omega
theorem blocks_flat (n : Int) : blocksZ 1 n = blkN 8 n := by
  unfold blocksZ; rw [if_neg (by decide), if_neg (by decide), if_pos rfl]
theorem free_wp (h : C1 H c mc ma x s ms ix f mf seq L) (hl : liveN L ≤ 200) (K : AV → AH → Prop) (hK : ∀ H', Ext [] H H' → K (.int .i64 (64 - blkN 8 (liveN L))) H') : CQ.call 19 [.ptr (some (c, 0))] H K := by
  refine m_core_Core_Free_ok _ _ _ ?_
  unfold m_core_Core_Free
  rw [eq_cor, outP_val, condP_false, outP_enter]
  refine m_core_Core_pool_ok _ _ _ ?_
  unfold m_core_Core_pool m_core_Core_poolt
  rw [outP_enter]
  refine via_wp (by kernel_rfl) ?_
  refine poolNew_wp (Q := fun _ => True) 64 _ fun G fl p x1 hfl hp => ?_
  have hp : Pl (fun _ => True) G fl p (startP 64) := hp
  have hG := h.mono0 x1
  obtain ⟨clk, b0, q1, q2⟩ := hG.hmc
  have l1 : ldV (G.get c) 1 = some (.map (some mc)) := by rw [hG.hc]; rfl
  unfold m_core_Core_pooltth
  rw [w_nil_ptr, outP_val, w_fieldAddr_ptr, outP_val, w_load_c, Nat.zero_add, l1, vO_some, outP_val, w_range1 rfl q1, outP_val]
  have x2 : Ext [] G (G.new (.iter (some mc) clk [] clk)) := (Ext.refl _ _).new _
  have gi := get_new_same G (.iter (some mc) clk [] clk)
  have ni : (G.new (.iter (some mc) clk [] clk)).next = G.next + 1 := rfl
  have low := hp.low
  have hp2 := hp.mono x2 (by simp)
  generalize G.new (.iter (some mc) clk [] clk) = G2 at *
  have nG := x1.next
  have hk := blk_in (n := (liveN L : Int)) (by omega) (by omega)
  have hmc2 : mc < G.next := hG.mcl
  unfold m_core_Core_pooltthtb
  refine loopP_rule (I := fun t G' => t = (.ptr (some (c, 0)), .ptr (some (p, 0)), .ptr (some (G.next, 0))) ∧ Ext [] H G' ∧ G.next + 1 ≤ G'.next ∧ G'.get mc = some (.mp [(.str [97], .ptr (some (x, 0)), b0)] clk) ∧ ∃ fl' S seen, Pl (fun _ => True) G' fl' p S ∧ (∀ b ∈ fl', H.next ≤ b ∧ b ≠ G.next) ∧ G'.get G.next = some (.iter (some mc) clk seen clk) ∧ (seen = [] ∧ S = startP 64 ∨ seen = [b0] ∧ (S.free.length : Int) = 64 - blkN 8 (liveN L)))
    (μ := fun _ G' => match G'.get G.next with | some (.iter _ _ [] _) => 1 | _ => 0) ?_ ⟨rfl, x1.trans x2, by omega, x2.get hmc2 (by simp) q1, fl, startP 64, [], hp2, fun b hb => ⟨hfl b hb, by have := low b hb; omega⟩, gi, .inl ⟨rfl, rfl⟩⟩
  rintro t G' ⟨rfl, x3, n3, gm, fl', S, seen, hP, hfl', git, hS⟩ rec hrec
  have hG' := h.mono0 x3
  unfold m_core_Core_pooltthtbl
  have ex0 : ∀ (G : AH) (l : List AV) (a : AV), w_extract 0 G (.tup (a :: l)) = some (.val a G) := fun _ _ _ => rfl
  rcases hS with ⟨rfl, rfl⟩ | ⟨rfl, hS⟩
  · rw [next_one git gm q2, outP_val, ex0, outP_val, condP_true]
    have x4 : Ext [G.next] G' (G'.put G.next (some (.iter (some mc) clk [b0] clk))) := (Ext.refl _ _).put (.inr (by simp)) _
    have git4 := get_put_same (H := G') G.next (some (.iter (some mc) clk [b0] clk))
    have n4 : (G'.put G.next (some (.iter (some mc) clk [b0] clk))).next = G'.next := AH.next_put _ _ _
    have x34 : Ext [] H (G'.put G.next (some (.iter (some mc) clk [b0] clk))) := x3.put (.inl (by omega)) _
    have gm4 := x4.get (by omega) (by simp; omega) gm
    have hP4 := hP.mono x4 fun b hb hq => by simp at hb; exact (hfl' b hq).2 hb
    generalize G'.put G.next (some (.iter (some mc) clk [b0] clk)) = G4 at *
    have hG4 := h.mono0 x34
    have lx0 : ldV (G4.get x) 0 = some (.int .i64 0) := by rw [hG4.hx]; rfl
    have lx3 : ldV (G4.get x) 3 = some (.ptr (some (s, 0))) := by rw [hG4.hx]; rfl
    have lx4 : ldV (G4.get x) 4 = some (.ptr (some (ix, 0))) := by rw [hG4.hx]; rfl
    have ex1 : ∀ (G : AH) (a b : AV), w_extract 1 G (.tup [a, b]) = some (.val b G) := fun _ _ _ => rfl
    rw [entry_one git4 gm4, outP_val, ex0, outP_val, ex1, outP_val, w_nil_ptr, outP_val, w_fieldAddr_ptr, outP_val, w_load_c, Nat.zero_add, lx0, vO_some, outP_val, w_mul_in (by omega) (by omega), outP_val, w_nil_ptr, outP_val, w_fieldAddr_ptr, outP_val, w_load_c, Nat.zero_add, lx4, vO_some, outP_val, w_nil_ptr, outP_val, w_fieldAddr_ptr, outP_val, w_load_c, Nat.zero_add, lx3, vO_some, outP_val, outP_enter]
    refine kind_wp hG4.ix _ ?_
    rw [w_load_c, lx0, vO_some, reC_val, beq_intK, ckP_true, w_load_c, lx3, vO_some, reC_val, beq_ptr, ckP_true, outP_enter]
    refine len_wp hG4.st _ fun G5 x5 => ?_
    have hG5 := hG4.mono0 x5
    have lx0' : ldV (G5.get x) 0 = some (.int .i64 0) := by rw [hG5.hx]; rfl
    rw [w_load_c, lx0', vO_some, reC_val, beq_intK, ckP_true, outP_enter]
    refine blocks_wp 1 (liveN L) (by omega) _ ?_
    rw [w_load_c, lx0', vO_some, reC_val, beq_intK, ckP_true, outP_enter, blocks_flat]
    refine via_wp (by kernel_rfl) ?_
    have hP5 := hP4.mono x5 (by simp)
    have e64 : (startP 64).free.length = 64 := by simp [startP]
    refine poolSize_wp hP5 trivial (by omega) (by show ([] : List Int).length ≤ 1000; simp) (by omega) _ fun G6 fl6 x6 hfl6 hP6 => ?_
    have n5 := x5.next
    have n6 := x6.next
    have x56 : Ext [] H G6 := (((x34.trans x5).mono (m' := fl') (by simp)).trans x6).mono fun b hb hlt => by have := (hfl' b hb).1; omega
    have hG6 := h.mono0 x56
    rw [outP_enter]
    refine moves_wp hG6.hc _ _ ?_
    rw [condP_false]
    have git6 : G6.get G.next = some (.iter (some mc) clk [b0] clk) := x6.get (by omega) (fun q => (hfl' _ q).2 rfl) (x5.get (by omega) (by simp) git4)
    refine hrec _ _ ⟨rfl, x56, by omega, ?_, fl6, _, [b0], hP6, fun b hb => ?_, git6, .inr ⟨rfl, free_of hk.1 (by omega)⟩⟩ ?_
    · refine x6.get (by omega) (fun q => ?_) (x5.get (by omega) (by simp) gm4)
      have := (hfl' _ q).1
      have := h.mcl
      omega
    · rcases hfl6 b hb with q | q
      · exact hfl' b q
      · omega
    · show (match G6.get G.next with | some (.iter _ _ [] _) => 1 | _ => 0) < (match G'.get G.next with | some (.iter _ _ [] _) => 1 | _ => 0)
      rw [git6, git]
      exact Nat.zero_lt_one
  · rw [next_done git gm q2, outP_val, ex0, outP_val, condP_false]
    show outP CQ G' (some (Out.enter 52 [.ptr (some (p, 0))])) _
    rw [outP_enter]
    refine via_wp (by kernel_rfl) ?_
    refine poolFree_wp hP _ ?_
    rw [hS]
    exact hK _ x3
end
end Go.Ab
/- core: one collection; whether something can be put. -/
namespace Go.Ab
noncomputable section
open Go.Proofs
set_option maxRecDepth 10000
variable {H H' : AH} {c mc ma x s ms ix f mf : Nat} {seq : Int} {L : Ls}

theorem w_alloc_atK (e : TypeId) (cs : List AV) (b : Nat) : w_alloc e cs H (some b) = some (.val (.ptr (some (b, 0))) (H.put b (some (.cells e cs)))) := by
  simp only [w_alloc, newVar, newTo_some_eq]
theorem more_wp (h : C1 H c mc ma x s ms ix f mf seq L) (hl : liveN L ≤ 100) (K : AV → AH → Prop) (hK : ∀ H', Ext [] H H' → K (.int .i64 (blkN 8 ((liveN L : Int) + 1) - blkN 8 (liveN L))) H') : CQ.call 201 [.ptr (some (c, 0)), .str [97]] H K := by
  refine m_core_Core_more_ok _ _ _ _ ?_
  unfold m_core_Core_more
  obtain ⟨clk, b0, q1, q2⟩ := h.hmc
  have l1 : ldV (H.get c) 1 = some (.map (some mc)) := by rw [h.hc]; rfl
  have lx3 : ldV (H.get x) 3 = some (.ptr (some (s, 0))) := by rw [h.hx]; rfl
  rw [w_nil_ptr, outP_val, w_fieldAddr_ptr, outP_val, w_load_c, Nat.zero_add, l1, vO_some, outP_val, w_look1 col_zero q1, outP_val, if_pos rfl, w_nil_ptr, outP_val, w_fieldAddr_ptr, outP_val, w_load_c, Nat.zero_add, lx3, vO_some, outP_val, outP_enter]
  refine len_wp h.st _ fun G x1 => ?_
  have hG := h.mono0 x1
  have hl0 : (0 : Int) ≤ (liveN L : Int) ∧ (liveN L : Int) ≤ 200 := ⟨by omega, by omega⟩
  have lx4 : ldV (G.get x) 4 = some (.ptr (some (ix, 0))) := by rw [hG.hx]; rfl
  rw [w_nil_ptr, outP_val, w_fieldAddr_ptr, outP_val, w_load_c, Nat.zero_add, lx4, vO_some, outP_val, w_add_in (by omega) (by omega), outP_val, w_nil_ptr, outP_val, w_fieldAddr_ptr, outP_val, w_load_c, Nat.zero_add, lx4, vO_some, outP_val, outP_enter]
  refine kind_wp hG.ix _ ?_
  rw [w_load_c, lx4, vO_some, reC_val, beq_ptr, ckP_true, outP_enter]
  refine blocks_wp 1 ((liveN L : Int) + 1) (by omega) _ ?_
  rw [w_load_c, lx4, vO_some, reC_val, beq_ptr, ckP_true, outP_enter]
  refine kind_wp hG.ix _ ?_
  rw [outP_enter]
  refine blocks_wp 1 (liveN L : Int) (by omega) _ ?_
  rw [blocks_flat, blocks_flat]
  have b1 := blk_in (n := (liveN L : Int) + 1) (by omega) (by omega)
  have b2 := blk_in (n := (liveN L : Int)) (by omega) (by omega)
  rw [w_sub_in (by omega) (by omega), outP_val, outP_enter]
  refine moves_wp hG.hc _ _ ?_
  rw [condP_false]
  exact hK _ x1
/-- What is wrong with an operation that puts. -/
def putE (o : OpV) : Int := if ¬ o.col = [97] then 3 else if o.id < 1 ∨ 1000 < o.id then 2 else if mayB o.vec 2 = false then 1 else if 40 < o.pay.length then 11 else 0
theorem op_box' (o : OpV) {v : AV} (h : v.one = true) (e : TypeId) : w_box e H (opA o v) none = some (.val (.ptr (some (H.next, 0))) (H.new (.cells e (opC o v)))) := w_box_one (op_one o h)
set_option maxHeartbeats 1000000 in
theorem put_wp' (h : C1 H c mc ma x s ms ix f mf seq L) (hl : liveN L ≤ 100) {b : Nat} {v : AV} (o : OpV) (hv : VecF H b v o.vec) (_hV : o.vec.length ≤ 1000) (hp : o.pay.length ≤ 9223372036854775807) (K : AV → AH → Prop) (hK : ∀ H', Ext [] H H' → K (.int .i64 (putE o)) H') :
    CQ.call 114 [.ptr (some (c, 0)), opA o v] H K := by
  refine m_core_Core_put_ok _ _ _ _ ?_
  unfold m_core_Core_put
  obtain ⟨f1, f2, f3⟩ := slk_factsK hv.slk
  rw [op_box' o f1, outP_val]
  have x1 : Ext [] H (H.new (.cells 41 (opC o v))) := (Ext.refl _ _).new _
  have g1 := get_new_same H (.cells 41 (opC o v))
  have nx : H.next < (H.new (.cells 41 (opC o v))).next := by rw [next_new]; omega
  generalize H.new (.cells 41 (opC o v)) = G at *
  have hG := h.mono0 x1
  have hvG := hv.mono x1
  obtain ⟨clk, b0, q1, q2⟩ := hG.hmc
  have l1 : ldV (G.get c) 1 = some (.map (some mc)) := by rw [hG.hc]; rfl
  rw [w_nil_ptr, outP_val, w_fieldAddr_ptr, outP_val, w_load_c, Nat.zero_add, l1, vO_some, outP_val, w_fieldAddr_ptr, outP_val, w_load_c, Nat.zero_add, g1, op_f1, vO_some, outP_val, w_look1 col_zero q1, outP_val]
  unfold putE at hK
  by_cases cc : o.col = [97]
  case neg =>
    rw [if_pos cc] at hK
    rw [if_neg cc, eq_col0, outP_val, condP_true]
    exact hK _ x1
  rw [if_neg (not_not_intro cc)] at hK
  rw [if_pos cc, eq_col, outP_val, condP_false]
  by_cases c1 : o.id < 1
  · rw [if_pos (.inl c1)] at hK
    have d := decide_eq_true c1
    repeat (first | rw [outP_val] | rw [guardP_false] | rw [condP_true] | rw [g1] | rw [op_f3] | rw [d] | rw [boolIs_bool] | rw [beq_ff] | rw [Bool.not_true] | rw [w_pick_b] | rw [if_pos rfl] | rw [w_fieldAddr_ptr] | rw [Nat.zero_add] | rw [w_load_c] | rw [vO_some] | rw [w_lss])
    exact hK _ x1
  have d1 := decide_eq_false c1
  by_cases c2 : 1000 < o.id
  · rw [if_pos (.inr c2)] at hK
    have d := decide_eq_true c2
    repeat (first | rw [outP_val] | rw [guardP_true] | rw [condP_true] | rw [g1] | rw [op_f3] | rw [d1] | rw [d] | rw [boolIs_bool] | rw [beq_ff] | rw [Bool.not_false] | rw [w_pick_b] | rw [if_neg Bool.false_ne_true] | rw [w_fieldAddr_ptr] | rw [Nat.zero_add] | rw [w_load_c] | rw [vO_some] | rw [w_lss] | rw [w_gtr])
    exact hK _ x1
  have d2 := decide_eq_false c2
  rw [if_neg (by omega)] at hK
  have lx1 : ldV (G.get x) 1 = some (.int .i64 2) := by rw [hG.hx]; rfl
  repeat (first | rw [outP_val] | rw [guardP_true] | rw [g1] | rw [op_f3] | rw [d1] | rw [d2] | rw [op_f7 _ _ f2] | rw [lx1] | rw [condP_false] | rw [boolIs_bool] | rw [beq_ff] | rw [Bool.not_false] | rw [w_pick_b] | rw [if_neg Bool.false_ne_true] | rw [w_fieldAddr_ptr] | rw [w_nil_ptr] | rw [Nat.zero_add] | rw [w_load_c] | rw [vO_some] | rw [w_lss] | rw [w_gtr])
  rw [outP_enter]
  refine via_wp (by kernel_rfl) ?_
  refine vmay_wp hvG.is 2 _ ?_
  rw [w_not, outP_val]
  cases hm : mayB o.vec 2 with
  | false =>
    rw [if_pos hm] at hK
    rw [Bool.not_false, condP_true]
    exact hK _ x1
  | true =>
    rw [if_neg (by rw [hm]; decide)] at hK
    rw [Bool.not_true, condP_false]
    by_cases c4 : 40 < o.pay.length
    · rw [if_pos c4] at hK
      have d : decide ((40 : Int) < (o.pay.length : Int)) = true := decide_eq_true (by omega)
      repeat (first | rw [outP_val] | rw [condP_true] | rw [g1] | rw [op_f8] | rw [len_strK] | rw [d] | rw [w_fieldAddr_ptr] | rw [Nat.zero_add] | rw [w_load_c] | rw [vO_some] | rw [w_gtr])
      exact hK _ x1
    rw [if_neg c4] at hK
    have d4 : decide ((40 : Int) < (o.pay.length : Int)) = false := decide_eq_false (by omega)
    repeat (first | rw [outP_val] | rw [g1] | rw [op_f8] | rw [len_strK] | rw [d4] | rw [op_f1] | rw [condP_false] | rw [w_fieldAddr_ptr] | rw [Nat.zero_add] | rw [w_load_c] | rw [vO_some] | rw [w_gtr])
    rw [outP_enter, cc]
    refine throttled_wp hG.hc _ _ ?_
    rw [condP_false]
    have xm : Ext [] G (G.more 1) := (Ext.refl _ _).more 1
    have hM := hG.mono0 xm
    have lx3 : ldV ((G.more 1).get x) 3 = some (.ptr (some (s, 0))) := by rw [hM.hx]; rfl
    have gM : (G.more 1).get H.next = some (.cells 41 (opC o v)) := (get_more _ _ _).trans g1
    have nM : (G.more 1).next = G.next + 1 := next_more _ _
    rw [w_nil_ptr, outP_val, w_fieldAddr_ptr, outP_val, w_load_c, Nat.zero_add, lx3, vO_some, outP_val, w_fieldAddr_ptr, outP_val, w_load_c, Nat.zero_add, gM, op_f3, vO_some, outP_val, outP_enter]
    have ex0 : ∀ (G : AH) (a b : AV), w_extract 0 G (.tup [a, b]) = some (.val a G) := fun _ _ _ => rfl
    have ex1 : ∀ (G : AH) (a b : AV), w_extract 1 G (.tup [a, b]) = some (.val b G) := fun _ _ _ => rfl
    have z0 : Nat.add G.next 0 = G.next := rfl
    refine storeGet_wp hM.st o.id _ (fun _ G2 x2 => ?_) fun i hi hg G2 v' b' x2 hb os => ?_
    · rw [ex0, outP_val, ex1, outP_val, z0, w_alloc_atK, outP_val, w_store_c, get_put_same, stG (n := 5) _ _ rfl rfl (by decide) rfl, outP_skip, w_not, outP_val, Bool.not_false]
      have x3 : Ext [] G ((G2.put G.next (some (.cells 29 [.int .i64 0, nilV, .str [], .int .i64 0, .bool false]))).put G.next (some (.cells 29 (rowI Itm.zero)))) := ((xm.trans x2).put (.inl (Nat.le_refl _)) _).put (.inl (Nat.le_refl _)) _
      have g3 := x3.get nx (by simp) g1
      have hG3 := hG.mono0 x3
      generalize (G2.put G.next (some (.cells 29 [.int .i64 0, nilV, .str [], .int .i64 0, .bool false]))).put G.next (some (.cells 29 (rowI Itm.zero))) = G3 at *
      repeat (first | rw [outP_val] | rw [guardP_true] | rw [g3] | rw [op_f1] | rw [boolIs_bool] | rw [beq_tt] | rw [w_fieldAddr_ptr] | rw [Nat.zero_add] | rw [w_load_c] | rw [vO_some])
      rw [outP_enter, cc]
      refine more_wp hG3 hl _ fun G4 x4 => ?_
      repeat (first | rw [outP_val] | rw [guardP_true])
      rw [outP_enter]
      refine free_wp (hG3.mono0 x4) (by omega) _ fun G5 x5 => ?_
      have b1 := blk_in (n := (liveN L : Int)) (by omega) (by omega)
      have b2 := blk_step (n := (liveN L : Int)) (by omega)
      have d : decide (64 - blkN 8 (liveN L) < blkN 8 ((liveN L : Int) + 1) - blkN 8 (liveN L)) = false := decide_eq_false (by omega)
      repeat (first | rw [outP_val] | rw [guardP_true] | rw [d] | rw [condP_false] | rw [w_pick_b] | rw [if_pos rfl] | rw [w_gtr])
      exact hK _ (((x1.trans x3).trans x4).trans x5)
    · obtain ⟨q1', q2', _, q3'⟩ := Own.facts os
      rw [ex0, outP_val, ex1, outP_val, z0, w_alloc_atK, outP_val, w_store_c, get_put_same, stG (n := 5) _ _ rfl rfl (by decide) (row_one (i := i.sv v' b') q1'), outP_skip, w_not, outP_val, Bool.not_true]
      repeat (first | rw [outP_val] | rw [guardP_false] | rw [condP_false] | rw [boolIs_bool] | rw [beq_tt] | rw [w_pick_b] | rw [if_neg Bool.false_ne_true])
      exact hK _ ((((x1.trans xm).trans x2).put (.inl (by have := x1.next; omega)) _).put (.inl (by have := x1.next; omega)) _)
end
end Go.Ab
/- core: names; whether an operation can be done. -/
namespace Go.Ab
noncomputable section
open Go.Proofs
set_option maxRecDepth 10000
variable {H H' : AH} {c mc ma x s ms ix f mf : Nat} {seq : Int} {L : Ls}

theorem w_at_str {t : List UInt8} {j : Nat} (hj : j < t.length) : w_index PP 9 H (.str t) (.int .i64 j) = some (.val (.int .u8 (t[j].toNat : Int)) H) := by
  have e : indexA PP 9 = some fun x i => match x, i with
    | .str s, .int _ n => ob (natZ n) fun m => ob (nthO s m) fun b => some (.int .u8 b.toNat)
    | _, _ => none := by
    unfold indexA
    rw [str_und]
    rfl
  show ((oIndex (fun _ => AV.str t) (fun _ => AV.int .i64 j) (indexA PP 9)).val .leaf H none) = _
  rw [e]
  show vO H (ob (natZ (j : Int)) fun m => ob (nthO t m) fun b => some (AV.int .u8 (b.toNat : Int))) = _
  rw [natZ_cast, ob_some, nthO_eq, List.getElem?_eq_getElem hj, ob_some]
  rfl
def nameB (t : List UInt8) : Bool := decide (1 ≤ t.length) && decide (t.length ≤ 12) && t.all fun b => decide (97 ≤ (b.toNat : Int)) && decide ((b.toNat : Int) ≤ 122)
theorem name_wp (t : List UInt8) (ht : t.length ≤ 9223372036854775807) (K : AV → AH → Prop) (hK : K (.bool (nameB t)) H) : CQ.call 198 [.str t] H K := by
  refine m_core_name_ok _ _ _ ?_
  unfold m_core_name m_core_namet
  by_cases c1 : (t.length : Int) < 1
  · have d := decide_eq_true c1
    repeat (first | rw [outP_val] | rw [guardP_false] | rw [condP_true] | rw [len_strK] | rw [d] | rw [boolIs_bool] | rw [beq_ff] | rw [Bool.not_true] | rw [w_pick_b] | rw [if_pos rfl] | rw [w_lss])
    have : nameB t = false := by
      unfold nameB
      rw [decide_eq_false (by omega)]; rfl
    rw [this] at hK; exact hK
  have d1 := decide_eq_false c1
  by_cases c2 : (12 : Int) < (t.length : Int)
  · have d := decide_eq_true c2
    repeat (first | rw [outP_val] | rw [guardP_true] | rw [condP_true] | rw [len_strK] | rw [d1] | rw [d] | rw [boolIs_bool] | rw [beq_ff] | rw [Bool.not_false] | rw [w_pick_b] | rw [if_neg Bool.false_ne_true] | rw [w_lss] | rw [w_gtr])
    have : nameB t = false := by
      unfold nameB
      rw [decide_eq_false (show ¬ t.length ≤ 12 by omega), Bool.and_false]; rfl
    rw [this] at hK; exact hK
  have d2 := decide_eq_false c2
  repeat (first | rw [outP_val] | rw [guardP_true] | rw [len_strK] | rw [d1] | rw [d2] | rw [condP_false] | rw [boolIs_bool] | rw [beq_ff] | rw [Bool.not_false] | rw [w_pick_b] | rw [if_neg Bool.false_ne_true] | rw [w_lss] | rw [w_gtr])
  have en : nameB t = t.all fun b => decide (97 ≤ (b.toNat : Int)) && decide ((b.toNat : Int) ≤ 122) := by
    unfold nameB
    rw [decide_eq_true (by omega), decide_eq_true (by omega)]; rfl
  rw [en] at hK
  unfold m_core_nametth
  rw [len_strK, outP_val]
  unfold m_core_nametthtb
  refine loopP_rule (I := fun q G => ∃ j : Nat, q = (.str t, .int .i64 t.length, .int .i64 j) ∧ j ≤ t.length ∧ G = H ∧ ∀ b ∈ t.take j, 97 ≤ (b.toNat : Int) ∧ (b.toNat : Int) ≤ 122) (μ := fun q _ => match q.2.2 with | .int _ z => t.length - z.toNat | _ => 0) ?_ ⟨0, rfl, Nat.zero_le _, rfl, fun b hb => by simp at hb⟩
  rintro q G ⟨j, rfl, hj, rfl, hb⟩ rec hrec
  unfold m_core_nametthtbl
  rw [w_lss, outP_val]
  by_cases cj : j < t.length
  case neg =>
    rw [decide_eq_false (by omega), condP_false]
    rw [List.take_of_length_le (by omega)] at hb
    have : (t.all fun b => decide (97 ≤ (b.toNat : Int)) && decide ((b.toNat : Int) ≤ 122)) = true := List.all_eq_true.2 fun b h => by
      rw [decide_eq_true (hb b h).1, decide_eq_true (hb b h).2]; rfl
    rw [this] at hK; exact hK
  have ht' := w_at_str (H := G) cj
  have no : ¬ (97 ≤ (t[j].toNat : Int) ∧ (t[j].toNat : Int) ≤ 122) → K (.bool false) G := fun q => by
    have : (t.all fun b => decide (97 ≤ (b.toNat : Int)) && decide ((b.toNat : Int) ≤ 122)) = false := by
      rw [List.all_eq_false]
      exact ⟨t[j], List.getElem_mem cj, fun w => q (by simpa using w)⟩
    rw [this] at hK; exact hK
  rw [decide_eq_true (by omega), condP_true]
  by_cases e1 : (t[j].toNat : Int) < 97
  · have f1 := decide_eq_true e1
    repeat (first | rw [outP_val] | rw [guardP_false] | rw [condP_true] | rw [ht'] | rw [f1] | rw [boolIs_bool] | rw [beq_ff] | rw [Bool.not_true] | rw [w_pick_b] | rw [if_pos rfl] | rw [w_lss])
    exact no (by omega)
  have f1 := decide_eq_false e1
  by_cases e2 : (122 : Int) < (t[j].toNat : Int)
  · have f2 := decide_eq_true e2
    repeat (first | rw [outP_val] | rw [guardP_true] | rw [condP_true] | rw [ht'] | rw [f1] | rw [f2] | rw [boolIs_bool] | rw [beq_ff] | rw [Bool.not_false] | rw [w_pick_b] | rw [if_neg Bool.false_ne_true] | rw [w_lss] | rw [w_gtr])
    exact no (by omega)
  have f2 := decide_eq_false e2
  repeat (first | rw [outP_val] | rw [guardP_true] | rw [ht'] | rw [f1] | rw [f2] | rw [condP_false] | rw [boolIs_bool] | rw [beq_ff] | rw [Bool.not_false] | rw [w_pick_b] | rw [if_neg Bool.false_ne_true] | rw [w_lss] | rw [w_gtr] | rw [w_add_in (by omega) (by omega)])
  refine hrec _ _ ⟨j + 1, by rfl, by omega, rfl, fun b h => ?_⟩ ?_
  · rw [List.take_succ_eq_append_getElem cj] at h
    rcases List.mem_append.1 h with h | h
    · exact hb b h
    · rw [List.mem_singleton.1 h]; omega
  · show t.length - ((j : Int) + 1).toNat < t.length - (j : Int).toNat
    omega
theorem coreAt_wp (n : Int) (K : AV → AH → Prop) (h0 : n = 0 → K .nilIface H) (hK : n ≠ 0 → ∀ H' e, Ext [] H H' → ErrX H' e n → K e H') : CQ.call 43 [.iface 44 (.int .i64 n)] H K := by
  refine m_core_at_ok _ _ _ ?_
  unfold m_core_at
  rw [outP_enter]
  refine via_wp (by kernel_rfl) ?_
  exact failAt_wp _ n _ h0 hK
/-- What is wrong with an operation that makes a collection, where one is there. -/
def createE (o : OpV) : Int := if nameB o.col = false then 1 else if o.col = [97] then 4 else if o.dim < 1 ∨ 8 < o.dim then 2 else if ¬ (o.metric = 1 ∨ o.metric = 2) ∨ o.index < 1 ∨ 4 < o.index then 12 else 0
theorem known_wp' (m : Int) (K : AV → AH → Prop) (hK : K (.bool (decide (m = 1 ∨ m = 2))) H) : CQ.call 199 [.int .i64 m] H K := by
  by_cases c : m = 1 ∨ m = 2
  · rw [decide_eq_true c] at hK
    exact known_wp m c K hK
  · rw [decide_eq_false c] at hK
    refine m_metric_Known_ok _ _ _ ?_
    unfold m_metric_Known
    have d1 : decide (m = 1) = false := decide_eq_false (by omega)
    have d2 : decide (m = 2) = false := decide_eq_false (by omega)
    repeat (first | rw [outP_val] | rw [guardP_true] | rw [d1] | rw [d2] | rw [boolIs_bool] | rw [beq_ff] | rw [Bool.not_false] | rw [w_pick_b] | rw [if_neg Bool.false_ne_true] | rw [w_eql])
    exact hK
theorem str_zero : zeroA PP 9 = some (.str []) := by kernel_rfl
theorem neq_col (b o : Nat) : w_eq PP .neq 83 false true H (.ptr (some (b, o))) (.ptr none) = some (.val (.bool true) H) := by kernel_rfl
theorem neq_col0 : w_eq PP .neq 83 false true H (.ptr none) (.ptr none) = some (.val (.bool false) H) := by kernel_rfl
set_option maxHeartbeats 1000000 in
theorem create_wp' (h : C1 H c mc ma x s ms ix f mf seq L) {b : Nat} {v : AV} (o : OpV) (hv : VecF H b v o.vec) (hcl : o.col.length ≤ 9223372036854775807) (hne : createE o ≠ 0) (K : AV → AH → Prop) (hK : ∀ H', Ext [] H H' → K (.int .i64 (createE o)) H') :
    CQ.call 112 [.ptr (some (c, 0)), opA o v] H K := by
  refine m_core_Core_create_ok _ _ _ _ ?_
  unfold m_core_Core_create
  obtain ⟨f1, f2, f3⟩ := slk_factsK hv.slk
  rw [op_box' o f1, outP_val]
  have x1 : Ext [] H (H.new (.cells 41 (opC o v))) := (Ext.refl _ _).new _
  have g1 := get_new_same H (.cells 41 (opC o v))
  generalize H.new (.cells 41 (opC o v)) = G at *
  have hG := h.mono0 x1
  obtain ⟨clk, b0, q1, q2⟩ := hG.hmc
  obtain ⟨clk', q3⟩ := hG.hma
  have l1 : ldV (G.get c) 1 = some (.map (some mc)) := by rw [hG.hc]; rfl
  have l2 : ldV (G.get c) 2 = some (.map (some ma)) := by rw [hG.hc]; rfl
  have ex0 : ∀ (G : AH) (a b : AV), w_extract 0 G (.tup [a, b]) = some (.val a G) := fun _ _ _ => rfl
  have ex1 : ∀ (G : AH) (a b : AV), w_extract 1 G (.tup [a, b]) = some (.val b G) := fun _ _ _ => rfl
  rw [w_nil_ptr, outP_val, w_fieldAddr_ptr, outP_val, w_load_c, Nat.zero_add, l2, vO_some, outP_val, w_fieldAddr_ptr, outP_val, w_load_c, Nat.zero_add, g1, op_f1, vO_some, outP_val, w_look0 str_zero q3, outP_val, br_true, ex0, outP_val, ex1, outP_val]
  repeat (first | rw [outP_val] | rw [g1] | rw [op_f1] | rw [w_fieldAddr_ptr] | rw [Nat.zero_add] | rw [w_load_c] | rw [vO_some])
  rw [outP_enter]
  refine name_wp _ hcl _ ?_
  rw [w_not, outP_val]
  unfold createE at hK hne
  cases hn : nameB o.col with
  | false =>
    rw [if_pos hn] at hK
    rw [Bool.not_false, condP_true]
    exact hK _ x1
  | true =>
    rw [if_neg (by rw [hn]; decide)] at hK hne
    rw [Bool.not_true, condP_false, w_nil_ptr, outP_val, w_fieldAddr_ptr, outP_val, w_load_c, Nat.zero_add, l1, vO_some, outP_val, w_fieldAddr_ptr, outP_val, w_load_c, Nat.zero_add, g1, op_f1, vO_some, outP_val, w_look1 col_zero q1, outP_val]
    by_cases ca : o.col = [97]
    · rw [if_pos ca] at hK
      rw [if_pos ca, neq_col, outP_val]
      repeat (first | rw [outP_val] | rw [guardP_false] | rw [condP_true] | rw [boolIs_bool] | rw [beq_ff] | rw [Bool.not_true] | rw [w_pick_b] | rw [if_pos rfl])
      exact hK _ x1
    rw [if_neg ca] at hK hne
    rw [if_neg ca, neq_col0, outP_val]
    by_cases c1 : o.dim < 1
    · rw [if_pos (.inl c1)] at hK
      have d := decide_eq_true c1
      repeat (first | rw [outP_val] | rw [guardP_true] | rw [guardP_false] | rw [condP_true] | rw [g1] | rw [op_f4] | rw [d] | rw [condP_false] | rw [boolIs_bool] | rw [beq_ff] | rw [Bool.not_true] | rw [Bool.not_false] | rw [w_pick_b] | rw [if_pos rfl] | rw [if_neg Bool.false_ne_true] | rw [w_fieldAddr_ptr] | rw [Nat.zero_add] | rw [w_load_c] | rw [vO_some] | rw [w_lss])
      exact hK _ x1
    have d1 := decide_eq_false c1
    by_cases c2 : 8 < o.dim
    · rw [if_pos (.inr c2)] at hK
      have d := decide_eq_true c2
      repeat (first | rw [outP_val] | rw [guardP_true] | rw [condP_true] | rw [g1] | rw [op_f4] | rw [d1] | rw [d] | rw [condP_false] | rw [boolIs_bool] | rw [beq_ff] | rw [Bool.not_false] | rw [w_pick_b] | rw [if_neg Bool.false_ne_true] | rw [w_fieldAddr_ptr] | rw [Nat.zero_add] | rw [w_load_c] | rw [vO_some] | rw [w_lss] | rw [w_gtr])
      exact hK _ x1
    have d2 := decide_eq_false c2
    rw [if_neg (by omega)] at hK hne
    repeat (first | rw [outP_val] | rw [guardP_true] | rw [g1] | rw [op_f4] | rw [d1] | rw [d2] | rw [op_f5] | rw [condP_false] | rw [boolIs_bool] | rw [beq_ff] | rw [Bool.not_false] | rw [w_pick_b] | rw [if_neg Bool.false_ne_true] | rw [w_fieldAddr_ptr] | rw [Nat.zero_add] | rw [w_load_c] | rw [vO_some] | rw [w_lss] | rw [w_gtr])
    rw [outP_enter]
    refine known_wp' _ _ ?_
    have c3 : ¬ (o.metric = 1 ∨ o.metric = 2) ∨ o.index < 1 ∨ 4 < o.index := by
      by_cases q : ¬ (o.metric = 1 ∨ o.metric = 2) ∨ o.index < 1 ∨ 4 < o.index
      · exact q
      · rw [if_neg q] at hne; exact absurd rfl hne
    rw [if_pos c3] at hK
    by_cases k1 : o.metric = 1 ∨ o.metric = 2
    · have e1 := decide_eq_true k1
      by_cases k2 : o.index < 1
      · have e2 := decide_eq_true k2
        repeat (first | rw [outP_val] | rw [guardP_true] | rw [guardP_false] | rw [condP_true] | rw [e1] | rw [g1] | rw [op_f6] | rw [e2] | rw [boolIs_bool] | rw [beq_ff] | rw [Bool.not_true] | rw [Bool.not_false] | rw [w_pick_b] | rw [if_pos rfl] | rw [if_neg Bool.false_ne_true] | rw [w_fieldAddr_ptr] | rw [Nat.zero_add] | rw [w_load_c] | rw [vO_some] | rw [w_not] | rw [w_lss])
        exact hK _ x1
      · have e2 := decide_eq_false k2
        have e3 : decide (4 < o.index) = true := decide_eq_true (by omega)
        repeat (first | rw [outP_val] | rw [guardP_true] | rw [condP_true] | rw [e1] | rw [g1] | rw [op_f6] | rw [e2] | rw [e3] | rw [boolIs_bool] | rw [beq_ff] | rw [Bool.not_true] | rw [Bool.not_false] | rw [w_pick_b] | rw [if_neg Bool.false_ne_true] | rw [w_fieldAddr_ptr] | rw [Nat.zero_add] | rw [w_load_c] | rw [vO_some] | rw [w_not] | rw [w_lss] | rw [w_gtr])
        exact hK _ x1
    · have e1 := decide_eq_false k1
      repeat (first | rw [outP_val] | rw [guardP_false] | rw [condP_true] | rw [e1] | rw [boolIs_bool] | rw [beq_ff] | rw [Bool.not_true] | rw [Bool.not_false] | rw [w_pick_b] | rw [if_pos rfl] | rw [w_not])
      exact hK _ x1
end
end Go.Ab
