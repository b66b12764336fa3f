/- core: what is done: a put. -/
import Derived.Test.YtlbjmgpbgkiejaaGreatDoorCorD
namespace Go.Ab
noncomputable section
open Go.Proofs
set_option maxRecDepth 10000
variable {H H' : AH} {c mc ma x s ms ix f mf : Nat} {seq : Int} {L : Ls}

theorem canPut_wp (h : C1 H c mc ma x s ms ix f mf seq L) (hl : liveN L ≤ 100) {b : Nat} {v : AV} (o : OpV) (hk : o.kind = 3) (hv : VecF H b v o.vec) (hV : o.vec.length ≤ 1000) (hp : o.pay.length ≤ 9223372036854775807) (K : AV → AH → Prop)
    (h0 : putE o = 0 → ∀ H', Ext [] H H' → K .nilIface H') (hK : putE o ≠ 0 → ∀ H' e, Ext [] H H' → ErrX H' e (putE o) → K e H') : CQ.call 17 [.ptr (some (c, 0)), opA o v] H K := by
  refine m_core_Core_Can_ok _ _ _ _ ?_
  unfold m_core_Core_Can
  obtain ⟨f1, f2, f3⟩ := slk_factsK hv.slk
  rw [op_box' o f1, outP_val, eq_cor, outP_val, condP_false, w_load_n, get_new_same, ld11 _ (op_len o v) (op_known o f3), vO_some, outP_val, outP_enter]
  have x1 : Ext [] H (H.new (.cells 41 (opC o v))) := (Ext.refl _ _).new _
  generalize H.new (.cells 41 (opC o v)) = G at *
  refine m_core_Core_can_ok _ _ _ _ ?_
  unfold m_core_Core_can
  rw [op_box' o f1, outP_val]
  have x2 : Ext [] G (G.new (.cells 41 (opC o v))) := (Ext.refl _ _).new _
  have g2 := get_new_same G (.cells 41 (opC o v))
  generalize G.new (.cells 41 (opC o v)) = G2 at *
  have d1 : decide ((3 : Int) = 1) = false := rfl
  have d2 : decide ((3 : Int) = 2) = false := rfl
  have d3 : decide ((3 : Int) = 3) = true := rfl
  have l11 := ld11 41 (op_len o v) (op_known o f3)
  rw [w_fieldAddr_ptr, outP_val, w_load_c, Nat.zero_add, g2, op_f0, vO_some, outP_val, hk]
  repeat (first | rw [outP_val] | rw [condP_true] | rw [d1] | rw [d2] | rw [d3] | rw [g2] | rw [l11] | rw [condP_false] | rw [w_load_n] | rw [vO_some] | rw [w_eql])
  rw [outP_enter]
  refine put_wp' (h.mono0 (x1.trans x2)) hl o (hv.mono (x1.trans x2)) hV hp _ fun G3 x3 => ?_
  show outP CQ G3 (some (Out.val (AV.iface 44 (.int .i64 (putE o))) G3)) _
  rw [outP_val, outP_enter]
  have xx := (x1.trans x2).trans x3
  exact coreAt_wp _ _ (fun q => h0 q _ xx) fun q G4 e x4 he => hK q G4 e (xx.trans x4) he

/-! The parts of a core, turned one by one. -/
theorem C1.ne_cells (h : C1 H c mc ma x s ms ix f mf seq L) : x ≠ c ∧ s ≠ c ∧ ix ≠ c ∧ f ≠ c ∧ mc ≠ c ∧ ma ≠ c ∧ ms ≠ c ∧ mf ≠ c ∧ x ≠ ms ∧ s ≠ ms ∧ ix ≠ ms ∧ f ≠ ms ∧ x ≠ mf ∧ s ≠ mf ∧ ix ≠ mf ∧ f ≠ mf := by
  obtain ⟨clk1, b0, q1, _⟩ := h.hmc
  obtain ⟨clk2, q2⟩ := h.hma
  obtain ⟨clk3, q3, _⟩ := h.st.hm
  obtain ⟨M, clk4, q4⟩ := h.ix.hm
  have hc := h.hc
  have hx := h.hx
  have hs := h.st.hs
  have hi := h.ix.hx
  have hf := h.ix.hf
  refine ⟨?_, ?_, ?_, ?_, ?_, ?_, ?_, ?_, ?_, ?_, ?_, ?_, ?_, ?_, ?_, ?_⟩ <;> intro e <;> subst e
  · rw [hc] at hx; cases hx
  · rw [hc] at hs; cases hs
  · rw [hc] at hi; cases hi
  · rw [hc] at hf; cases hf
  · rw [hc] at q1; cases q1
  · rw [hc] at q2; cases q2
  · rw [hc] at q3; cases q3
  · rw [hc] at q4; cases q4
  · rw [hx] at q3; cases q3
  · rw [hs] at q3; cases q3
  · rw [hi] at q3; cases q3
  · rw [hf] at q3; cases q3
  · rw [hx] at q4; cases q4
  · rw [hs] at q4; cases q4
  · rw [hi] at q4; cases q4
  · rw [hf] at q4; cases q4
theorem C1.setSeq (h : C1 H c mc ma x s ms ix f mf seq L) (n : Int) : C1 (H.put c (some (.cells 81 (corC n mc ma)))) c mc ma x s ms ix f mf n L := by
  obtain ⟨a1, a2, a3, a4, a5, a6, a7, a8, _⟩ := h.ne_cells
  have e : Ext [c] H (H.put c (some (.cells 81 (corC n mc ma)))) := (Ext.refl _ _).put (.inr (by simp)) _
  obtain ⟨clk, b0, q1, q2⟩ := h.hmc
  obtain ⟨clk', q3⟩ := h.hma
  have nn : (H.put c (some (.cells 81 (corC n mc ma)))).next = H.next := AH.next_put _ _ _
  exact ⟨get_put_same _ _, ⟨clk, b0, e.get h.mcl (by simpa using a5) q1, q2⟩, ⟨clk', e.get h.mal (by simpa using a6) q3⟩, e.get h.xl (by simpa using a1) h.hx,
    h.st.mono e (by simp) (by simpa using a2) (by simpa using a7), h.ix.mono e (by simpa using a3) (by simpa using a4) (by simpa using a8), by rw [nn]; exact h.cl, by rw [nn]; exact h.mcl, by rw [nn]; exact h.mal, by rw [nn]; exact h.xl, h.n1, h.n2, h.n3, h.n4, h.n5⟩
theorem C1.setSto (h : C1 H c mc ma x s ms ix f mf seq L) (e : Ext [ms] H H') {L' : Ls} (st : Sto [c, ms, mf] H' s ms L') : C1 H' c mc ma x s ms ix f mf seq L' := by
  obtain ⟨a1, a2, a3, a4, a5, a6, a7, a8, b1, b2, b3, b4, _⟩ := h.ne_cells
  obtain ⟨clk, b0, q1, q2⟩ := h.hmc
  obtain ⟨clk', q3⟩ := h.hma
  have n := e.next
  have := h.cl
  have := h.mcl
  have := h.mal
  have := h.xl
  exact ⟨e.get h.cl (by simpa using Ne.symm a7) h.hc, ⟨clk, b0, e.get h.mcl (by simpa using h.n4) q1, q2⟩, ⟨clk', e.get h.mal (by simpa using h.n1) q3⟩, e.get h.xl (by simpa using b1) h.hx, st,
    h.ix.mono e (by simpa using b3) (by simpa using b4) (by simpa using Ne.symm h.n3), by omega, by omega, by omega, by omega, h.n1, h.n2, h.n3, h.n4, h.n5⟩
theorem C1.setFlt (h : C1 H c mc ma x s ms ix f mf seq L) (e : Ext [mf] H H') (hi : Flt H' ix f mf 1 2) : C1 H' c mc ma x s ms ix f mf seq L := by
  obtain ⟨a1, a2, a3, a4, a5, a6, a7, a8, b1, b2, b3, b4, d1, d2, d3, d4⟩ := h.ne_cells
  obtain ⟨clk, b0, q1, q2⟩ := h.hmc
  obtain ⟨clk', q3⟩ := h.hma
  have n := e.next
  have := h.cl
  have := h.mcl
  have := h.mal
  have := h.xl
  exact ⟨e.get h.cl (by simpa using Ne.symm a8) h.hc, ⟨clk, b0, e.get h.mcl (by simpa using h.n5) q1, q2⟩, ⟨clk', e.get h.mal (by simpa using h.n2) q3⟩, e.get h.xl (by simpa using d1) h.hx,
    h.st.mono e (by simp) (by simpa using d2) (by simpa using h.n3), hi, by omega, by omega, by omega, by omega, h.n1, h.n2, h.n3, h.n4, h.n5⟩
abbrev repC (n : Int) : List AV := [.int .i64 0, nilV, .str [], .int .i64 0, .bool false, nilV, .int .i64 n, .int .i64 0, .bool false, .str [], .int .i64 0, .int .i64 0, .int .i64 0, .int .i64 0, .int .i64 0, .int .i64 0, .int .i64 0, .int .i64 0, .int .i64 0, .int .i64 0]
theorem rep_build (n : Int) : w_build PP 34 H [(2, .int .i64 n)] = some (.val (.agg (repC n)) H) := by kernel_rfl
theorem err_nilN : w_eq PP .neq 36 false true H .nilIface .nilIface = some (.val (.bool false) H) := by kernel_rfl
theorem chg_build {v : AV} (hv : SlK v) (id dr : Int) : w_build PP 92 H [(0, .int .i64 id), (1, v), (2, .int .u32 dr)] = some (.val (.agg [.int .i64 id, v, .int .u32 dr, .bool false]) H) := by
  rcases hv with rfl | ⟨_, _, rfl⟩ | ⟨_, _, _, _, _, rfl⟩ <;> kernel_rfl
theorem look_le {L : Ls} {n : Int} (h : ∀ p ∈ L, p.1.seq ≤ n) (hn : 0 ≤ n) (k : Int) : ((lookL k L).getD Itm.zero).seq ≤ n := by
  cases r : lookL k L with
  | none => exact hn
  | some i =>
    obtain ⟨p, hp, rfl, _⟩ := look_in r
    exact h p hp
theorem ext_same {b : Nat} {y : ABlk} (h : H.get b = some y) : Ext [] H (H.put b (some y)) := by
  refine ⟨by rw [AH.next_put]; exact Nat.le_refl _, fun d _ _ => ?_⟩
  by_cases q : d = b
  · rw [q, get_put_same, h]
  · exact get_put_ne _ q
set_option maxHeartbeats 2000000 in
theorem doPut_wp (h : C1 H c mc ma x s ms ix f mf seq L) {n : Nat} (hn : L.length ≤ n) (hn1 : n ≤ 100) (hq : ∀ p ∈ L, p.1.seq ≤ seq) (hs0 : 0 ≤ seq ∧ seq ≤ 1000000) {b : Nat} {v : AV} (o : OpV) (hk : o.kind = 3) (he : putE o = 0) (hv : VecF H b v o.vec) (hb : b ≠ c ∧ b ≠ ms ∧ b ≠ mf) (K : AV → AH → Prop)
    (hK : ∀ H' L', Ext [c, ms, mf] H H' → C1 H' c mc ma x s ms ix f mf (seq + 1) L' → L'.length ≤ n + 1 → (∀ p ∈ L', p.1.seq ≤ seq + 1) → K (.tup [.agg (repC 0), .nilIface]) H') :
    CQ.call 9 [.ptr (some (c, 0)), opA o v] H K := by
  have e1 : o.col = [97] := Classical.byContradiction fun q => by unfold putE at he; rw [if_pos q] at he; cases he
  have e2 : 1 ≤ o.id ∧ o.id ≤ 1000 := Classical.byContradiction fun q => by unfold putE at he; rw [if_neg (not_not_intro e1), if_pos (by omega)] at he; cases he
  have e3 : mayB o.vec 2 = true := by
    cases q : mayB o.vec 2 with
    | true => rfl
    | false => unfold putE at he; rw [if_neg (not_not_intro e1), if_neg (by omega), if_pos q] at he; cases he
  have e4 : o.pay.length ≤ 40 := Classical.byContradiction fun q => by unfold putE at he; rw [if_neg (not_not_intro e1), if_neg (by omega), if_neg (by rw [e3]; decide), if_pos (by omega)] at he; cases he
  have hV : o.vec.length ≤ 1000 := by have := ((mayB_iff _ _).1 e3).2.2.1; omega
  have hl : liveN L ≤ 100 := by have := live_le L; omega
  refine m_core_Core_Do_ok _ _ _ _ ?_
  unfold m_core_Core_Do
  obtain ⟨f1, f2, f3⟩ := slk_factsK hv.slk
  rw [op_box' o f1, outP_val, w_alloc_none, outP_val]
  have x1 : Ext [] H ((H.new (.cells 41 (opC o v))).new (.cells 34 (repC 0))) := ((Ext.refl _ _).new _).new _
  have g1 : ((H.new (.cells 41 (opC o v))).new (.cells 34 (repC 0))).get H.next = some (.cells 41 (opC o v)) := by rw [get_new_ne _ (by rw [next_new]; omega), get_new_same]
  have g2 := get_new_same (H.new (.cells 41 (opC o v))) (.cells 34 (repC 0))
  have nn : ((H.new (.cells 41 (opC o v))).new (.cells 34 (repC 0))).next = H.next + 2 := rfl
  rw [show (H.new (.cells 41 (opC o v))).next = H.next + 1 from rfl] at g2 ⊢
  generalize (H.new (.cells 41 (opC o v))).new (.cells 34 (repC 0)) = G at *
  have l11 := ld11 41 (op_len o v) (op_known o f3)
  unfold m_core_Core_Dot
  rw [w_load_n, g1, l11, vO_some, outP_val, outP_enter]
  refine canPut_wp (h.mono0 x1) hl o hk (hv.mono x1) hV (by omega) _ (fun _ G2 x2 => ?_) fun q => absurd he q
  rw [err_nilN, outP_val, condP_false]
  have x12 := x1.trans x2
  have h2 := h.mono0 x12
  have hv2 := hv.mono x12
  have ga2 : G2.get H.next = _ := x2.get (by omega) (by simp) g1
  have gb2 : G2.get (H.next + 1) = _ := x2.get (by omega) (by simp) g2
  have n2 := x2.next
  have hcl := h.cl
  have hml := h.st.mlt
  have hfl := h.ix.ml
  unfold m_core_Core_Dott
  have l0 : ldV (G2.get c) 0 = some (.int .i64 seq) := by rw [h2.hc]; rfl
  rw [w_nil_ptr, outP_val, w_fieldAddr_ptr, outP_val, w_load_c, Nat.zero_add, l0, vO_some, outP_val, w_add_in (by omega) (by omega), outP_val, w_nil_ptr, outP_val, w_fieldAddr_ptr, outP_val, w_store_c, Nat.zero_add, h2.hc, stN_one _ _ _ _ _ rfl (by show 0 < 8; decide), outP_skip]
  have hset : (corC seq mc ma).set 0 (.int .i64 (seq + 1)) = corC (seq + 1) mc ma := rfl
  rw [hset]
  have h3 := h2.setSeq (seq + 1)
  have x3 : Ext [c] G2 (G2.put c (some (.cells 81 (corC (seq + 1) mc ma)))) := (Ext.refl _ _).put (.inr (by simp)) _
  have n3 : (G2.put c (some (.cells 81 (corC (seq + 1) mc ma)))).next = G2.next := AH.next_put _ _ _
  generalize G2.put c (some (.cells 81 (corC (seq + 1) mc ma))) = G3 at *
  have ga3 : G3.get H.next = _ := x3.get (by omega) (by simp; omega) ga2
  have gb3 : G3.get (H.next + 1) = _ := x3.get (by omega) (by simp; omega) gb2
  have hv3 : VecF G3 b v o.vec := ⟨Sl.mono hv2.is x3 (by simpa using hb.1), hv.len⟩
  have d1 : decide ((3 : Int) = 1) = false := rfl
  have d2 : decide ((3 : Int) = 2) = false := rfl
  have d3 : decide ((3 : Int) = 3) = true := rfl
  unfold m_core_Core_Dottt m_core_Core_Dotttth
  rw [w_fieldAddr_ptr, outP_val, w_load_c, Nat.zero_add, ga3, op_f0, vO_some, outP_val, hk]
  unfold m_core_Core_Dotttthtb
  rw [w_eql, outP_val, d1]
  unfold m_core_Core_Dotttthtbt
  rw [condP_false]
  unfold m_core_Core_Dotttthtbtn
  rw [w_eql, outP_val, d2]
  unfold m_core_Core_Dotttthtbtnt
  rw [condP_false]
  unfold m_core_Core_Dotttthtbtntn
  rw [w_eql, outP_val, d3]
  unfold m_core_Core_Dotttthtbtntnt
  rw [condP_true]
  unfold m_core_Core_Dotttthtbtntnty
  obtain ⟨clk, b0, q1, q2⟩ := h3.hmc
  have l1 : ldV (G3.get c) 1 = some (.map (some mc)) := by rw [h3.hc]; rfl
  have l0' : ldV (G3.get c) 0 = some (.int .i64 (seq + 1)) := by rw [h3.hc]; rfl
  have lx3 : ldV (G3.get x) 3 = some (.ptr (some (s, 0))) := by rw [h3.hx]; rfl
  rw [w_nil_ptr, outP_val, w_fieldAddr_ptr, outP_val, w_load_c, Nat.zero_add, l1, vO_some, outP_val, w_fieldAddr_ptr, outP_val, w_load_c, Nat.zero_add, ga3, op_f1, vO_some, outP_val, w_look1 col_zero q1, outP_val, if_pos e1]
  repeat (first | rw [outP_val] | rw [lx3] | rw [ga3] | rw [op_f3] | rw [op_f7 _ _ f2] | rw [op_f8] | rw [l0'] | rw [w_fieldAddr_ptr] | rw [w_nil_ptr] | rw [Nat.zero_add] | rw [w_load_c] | rw [vO_some])
  rw [outP_enter]
  have sn : s ≠ ms := h3.ne_cells.2.2.2.2.2.2.2.2.2.1
  refine storePut_wp h3.st (by simp) sn (fun y hy => by simp at hy; omega) e2 hv3.is hV e4 (by have := look_le hq hs0.1 o.id; omega) (.inr (by omega)) _ fun G4 v' b' clk' x4 hb' st4 => ?_
  have h4 := h3.setSto x4 st4
  have n4 := x4.next
  have ga4 : G4.get H.next = _ := x4.get (by omega) (by simp; omega) ga3
  have gb4 : G4.get (H.next + 1) = _ := x4.get (by omega) (by simp; omega) gb3
  have hv4 : VecF G4 b v o.vec := ⟨Sl.mono hv3.is x4 (by simpa using hb.2.1), hv.len⟩
  have lx4 : ldV (G4.get x) 4 = some (.ptr (some (ix, 0))) := by rw [h4.hx]; rfl
  repeat (first | rw [outP_val] | rw [lx4] | rw [ga4] | rw [op_f3] | rw [op_f7 _ _ f2] | rw [op_f10] | rw [w_fieldAddr_ptr] | rw [w_nil_ptr] | rw [Nat.zero_add] | rw [w_load_c] | rw [vO_some])
  rw [outP_enter]
  refine indexPut_wp h4.ix hv4.is hV o.id o.draw e2 e3 _ fun G5 x5 hi5 => ?_
  have h5 := h4.setFlt x5 hi5
  have n5 := x5.next
  have ga5 : G5.get H.next = _ := x5.get (by omega) (by simp; omega) ga4
  have gb5 : G5.get (H.next + 1) = _ := x5.get (by omega) (by simp; omega) gb4
  repeat (first | rw [outP_val] | rw [ga5] | rw [op_f1] | rw [op_f3] | rw [op_f7 _ _ f2] | rw [op_f10] | rw [chg_build hv.slk] | rw [w_fieldAddr_ptr] | rw [Nat.zero_add] | rw [w_load_c] | rw [vO_some])
  rw [outP_enter]
  refine m_core_Core_notes_ok _ _ _ _ _ ?_
  unfold m_core_Core_notes
  have cone : (AV.agg [.int .i64 o.id, v, .int .u32 o.draw, .bool false]).parts.all AV.one = true := by show (v.one && true) = true; rw [f1]; rfl
  rw [w_box_one cone, outP_val, outP_enter]
  have x6 : Ext [] G5 (G5.new (.cells 92 (AV.agg [.int .i64 o.id, v, .int .u32 o.draw, .bool false]).parts)) := (Ext.refl _ _).new _
  generalize G5.new (.cells 92 (AV.agg [.int .i64 o.id, v, .int .u32 o.draw, .bool false]).parts) = G6 at *
  have h6 := h5.mono0 x6
  have n6 := x6.next
  have gb6 : G6.get (H.next + 1) = _ := x6.get (by omega) (by simp) gb5
  refine moves_wp h6.hc _ _ ?_
  rw [condP_false]
  unfold m_core_Core_Dottttt
  show outP CQ G6 (w_build PP 34 G6 [(2, .int .i64 0)]) _
  rw [rep_build, outP_val, w_store_c, gb6, stG (n := 20) _ _ rfl rfl (by decide) rfl, outP_skip, endG' (n := 20) (get_put_same _ _) rfl rfl]
  have y5 : Ext [c, ms, mf] G G6 := ((((x2.mono (by simp)).trans (x3.mono (m' := [c, ms, mf]) (by simp))).trans (x4.mono (by simp))).trans (x5.mono (by simp))).trans (x6.mono (by simp))
  have y6 : Ext [c, ms, mf] H (G6.put (H.next + 1) (some (.cells 34 (repC 0)))) := ((x1.mono (by simp)).trans y5).put (.inl (by omega)) _
  have x7 := ext_same gb6
  refine hK _ _ y6 (h6.mono0 x7) ?_ fun p hp => ?_
  · rw [len_putS]
    split <;> omega
  · rcases mem_putS hp with q | q
    · have := hq p q; omega
    · rw [q]; exact Int.le_refl _
end
end Go.Ab
/- core: made; its first collection. -/
namespace Go.Ab
noncomputable section
open Go.Proofs
set_option maxRecDepth 10000
variable {H H' : AH} {c mc ma : Nat}

theorem w_box_atK {e : TypeId} {v : AV} {b : Nat} (h : v.parts.all AV.one = true) : w_box e H v (some b) = some (.val (.ptr (some (b, 0))) (H.put b (some (.cells e v.parts)))) := by
  simp only [w_box, oBox, val_mk, allB_eq, h, br_true, newVar, newTo_some_eq]
structure CE0 (H : AH) (c mc ma : Nat) : Prop where
  hc : H.get c = some (.cells 81 (corC 0 mc ma))
  hmc : ∃ clk, H.get mc = some (.mp [] clk)
  hma : ∃ clk, H.get ma = some (.mp [] clk)
  cl : c < H.next
  mcl : mc < H.next
  mal : ma < H.next
  ne : mc ≠ ma
theorem CE0.mono0 (h : CE0 H c mc ma) (e : Ext [] H H') : CE0 H' c mc ma := by
  obtain ⟨clk, q1⟩ := h.hmc
  obtain ⟨clk', q3⟩ := h.hma
  have n := e.next
  have := h.cl
  have := h.mcl
  have := h.mal
  exact ⟨e.get h.cl (by simp) h.hc, ⟨clk, e.get h.mcl (by simp) q1⟩, ⟨clk', e.get h.mal (by simp) q3⟩, by omega, by omega, by omega, h.ne⟩
theorem cor_build (a b : Nat) : w_build PP 81 H [(1, .map (some a)), (2, .map (some b))] = some (.val (.agg (corC 0 a b)) H) := by kernel_rfl
theorem newCore_wp (K : AV → AH → Prop) (hK : ∀ H', Ext [] H H' → CE0 H' (H.next + 2) H.next (H.next + 1) → H'.next = H.next + 3 → K (.ptr (some (H.next + 2, 0))) H') : CQ.call 13 [] H K := by
  refine m_core_New_ok _ _ ?_
  unfold m_core_New
  rw [w_make_map, outP_val, w_make_map, outP_val, cor_build, outP_val, w_box_one rfl, outP_val]
  have x1 : Ext [] H (((H.new (.mp (ents []) 0)).new (.mp (ents []) 0)).new (.cells 81 (AV.agg (corC 0 H.next (H.new (.mp (ents []) 0)).next)).parts)) := (((Ext.refl _ _).new _).new _).new _
  refine hK _ x1 ⟨get_new_same _ _, ⟨0, ?_⟩, ⟨0, ?_⟩, ?_, ?_, ?_, by omega⟩ rfl
  · rw [get_new_ne _ (by rw [next_new, next_new]; omega), get_new_ne _ (by rw [next_new]; omega), get_new_same]; rfl
  · rw [get_new_ne _ (by rw [next_new, next_new]; omega), show H.next + 1 = (H.new (.mp (ents []) 0)).next from rfl, get_new_same]; rfl
  · show H.next + 2 < H.next + 3; omega
  · show H.next < H.next + 3; omega
  · show H.next + 1 < H.next + 3; omega
theorem free0_wp (h : CE0 H c mc ma) (K : AV → AH → Prop) (hK : ∀ H', Ext [] H H' → K (.int .i64 64) H') : CQ.call 19 [.ptr (some (c, 0))] H K := by
  refine m_core_Core_Free_ok _ _ _ ?_
  unfold m_core_Core_Free
  rw [eq_cor, outP_val, condP_false, outP_enter]
  refine m_core_Core_pool_ok _ _ _ ?_
  unfold m_core_Core_pool m_core_Core_poolt
  rw [outP_enter]
  refine via_wp (by kernel_rfl) ?_
  refine poolNew_wp (Q := fun _ => True) 64 _ fun G fl p x1 hfl hp => ?_
  have hp : Pl (fun _ => True) G fl p (startP 64) := hp
  have hG := h.mono0 x1
  obtain ⟨clk, q1⟩ := hG.hmc
  have l1 : ldV (G.get c) 1 = some (.map (some mc)) := by rw [hG.hc]; rfl
  unfold m_core_Core_pooltth
  rw [w_nil_ptr, outP_val, w_fieldAddr_ptr, outP_val, w_load_c, Nat.zero_add, l1, vO_some, outP_val, w_range1 rfl q1, outP_val]
  have x2 : Ext [] G (G.new (.iter (some mc) clk [] clk)) := (Ext.refl _ _).new _
  have gi := get_new_same G (.iter (some mc) clk [] clk)
  have hp2 := hp.mono x2 (by simp)
  have gm := x2.get hG.mcl (by simp) q1
  generalize G.new (.iter (some mc) clk [] clk) = G2 at *
  unfold m_core_Core_pooltthtb
  refine loopP_rule (I := fun t G' => t = (.ptr (some (c, 0)), .ptr (some (p, 0)), .ptr (some (G.next, 0))) ∧ G' = G2) (μ := fun _ _ => 0) ?_ ⟨rfl, rfl⟩
  rintro t G' ⟨rfl, rfl⟩ rec hrec
  unfold m_core_Core_pooltthtbl
  have ex0 : ∀ (G : AH) (l : List AV) (a : AV), w_extract 0 G (.tup (a :: l)) = some (.val a G) := fun _ _ _ => rfl
  rw [next_none gi gm, outP_val, ex0, outP_val, condP_false]
  show outP CQ G' (some (Out.enter 52 [.ptr (some (p, 0))])) _
  rw [outP_enter]
  refine via_wp (by kernel_rfl) ?_
  refine poolFree_wp hp2 _ ?_
  have e64 : (startP 64).free.length = 64 := by simp [startP]
  rw [e64]
  exact hK _ (x1.trans x2)
/-- An operation that makes collection a: of two numbers, by distance, all looked at. -/
structure MkA (o : OpV) : Prop where
  kind : o.kind = 1
  col : o.col = [97]
  dim : o.dim = 2
  metric : o.metric = 1
  index : o.index = 1
set_option maxHeartbeats 1000000 in
theorem create0_wp (h : CE0 H c mc ma) {b : Nat} {v : AV} (o : OpV) (ho : MkA o) (hv : VecF H b v o.vec) (K : AV → AH → Prop) (hK : ∀ H', Ext [] H H' → K (.int .i64 0) H') : CQ.call 112 [.ptr (some (c, 0)), opA o v] H K := by
  refine m_core_Core_create_ok _ _ _ _ ?_
  unfold m_core_Core_create
  obtain ⟨f1, f2, f3⟩ := slk_factsK hv.slk
  rw [op_box' o f1, outP_val]
  have x1 : Ext [] H (H.new (.cells 41 (opC o v))) := (Ext.refl _ _).new _
  have g1 := get_new_same H (.cells 41 (opC o v))
  have nx : H.next < (H.new (.cells 41 (opC o v))).next := by rw [next_new]; omega
  generalize H.new (.cells 41 (opC o v)) = G at *
  have hG := h.mono0 x1
  obtain ⟨clk, q1⟩ := hG.hmc
  obtain ⟨clk', q3⟩ := hG.hma
  have l1 : ldV (G.get c) 1 = some (.map (some mc)) := by rw [hG.hc]; rfl
  have l2 : ldV (G.get c) 2 = some (.map (some ma)) := by rw [hG.hc]; rfl
  have ex0 : ∀ (G : AH) (a b : AV), w_extract 0 G (.tup [a, b]) = some (.val a G) := fun _ _ _ => rfl
  have ex1 : ∀ (G : AH) (a b : AV), w_extract 1 G (.tup [a, b]) = some (.val b G) := fun _ _ _ => rfl
  rw [w_nil_ptr, outP_val, w_fieldAddr_ptr, outP_val, w_load_c, Nat.zero_add, l2, vO_some, outP_val, w_fieldAddr_ptr, outP_val, w_load_c, Nat.zero_add, g1, op_f1, vO_some, outP_val, w_look0 str_zero q3, outP_val, br_true, ex0, outP_val, ex1, outP_val]
  repeat (first | rw [outP_val] | rw [g1] | rw [op_f1] | rw [ho.col] | rw [w_fieldAddr_ptr] | rw [Nat.zero_add] | rw [w_load_c] | rw [vO_some])
  rw [outP_enter]
  refine name_wp [97] (by decide) _ ?_
  rw [show nameB [97] = true from rfl, w_not, outP_val, Bool.not_true, condP_false, w_nil_ptr, outP_val, w_fieldAddr_ptr, outP_val, w_load_c, Nat.zero_add, l1, vO_some, outP_val, w_fieldAddr_ptr, outP_val, w_load_c, Nat.zero_add, g1, op_f1, vO_some, outP_val, w_look0 col_zero q1, outP_val, br_false, neq_col0, outP_val]
  have d1 : decide ((2 : Int) < 1) = false := rfl
  have d2 : decide ((8 : Int) < 2) = false := rfl
  have d3 : decide ((1 : Int) < 1) = false := rfl
  have d4 : decide ((4 : Int) < 1) = false := rfl
  repeat (first | rw [outP_val] | rw [guardP_true] | rw [g1] | rw [op_f4] | rw [ho.dim] | rw [d1] | rw [d2] | rw [op_f5] | rw [ho.metric] | rw [condP_false] | rw [boolIs_bool] | rw [beq_ff] | rw [Bool.not_false] | rw [w_pick_b] | rw [if_neg Bool.false_ne_true] | rw [w_fieldAddr_ptr] | rw [Nat.zero_add] | rw [w_load_c] | rw [vO_some] | rw [w_lss] | rw [w_gtr])
  rw [outP_enter]
  refine known_wp 1 (.inl rfl) _ ?_
  have lm : w_len PP 77 G (.map (some mc)) = some (.val (.int .i64 0) G) := w_len_map (M := []) (kt := 9) (et := 83) (by kernel_rfl) q1
  have d5 : decide ((4 : Int) ≤ 0) = false := rfl
  repeat (first | rw [outP_val] | rw [guardP_true] | rw [g1] | rw [op_f6] | rw [ho.index] | rw [d3] | rw [d4] | rw [l1] | rw [lm] | rw [d5] | rw [condP_false] | rw [boolIs_bool] | rw [beq_ff] | rw [Bool.not_true] | rw [Bool.not_false] | rw [w_pick_b] | rw [if_neg Bool.false_ne_true] | rw [w_fieldAddr_ptr] | rw [w_nil_ptr] | rw [Nat.zero_add] | rw [w_load_c] | rw [vO_some] | rw [w_not] | rw [w_lss] | rw [w_gtr] | rw [w_geq])
  rw [outP_enter]
  refine blocks_wp 1 0 (by omega) _ ?_
  rw [outP_enter]
  refine free0_wp hG _ fun G2 x2 => ?_
  have d6 : decide ((64 : Int) < blocksZ 1 0) = false := rfl
  repeat (first | rw [outP_val] | rw [d6] | rw [condP_false] | rw [w_gtr])
  exact hK _ (x1.trans x2)
theorem canMk_wp (h : CE0 H c mc ma) {b : Nat} {v : AV} (o : OpV) (ho : MkA o) (hv : VecF H b v o.vec) (K : AV → AH → Prop) (hK : ∀ H', Ext [] H H' → K .nilIface H') : CQ.call 17 [.ptr (some (c, 0)), opA o v] H K := by
  refine m_core_Core_Can_ok _ _ _ _ ?_
  unfold m_core_Core_Can
  obtain ⟨f1, f2, f3⟩ := slk_factsK hv.slk
  rw [op_box' o f1, outP_val, eq_cor, outP_val, condP_false, w_load_n, get_new_same, ld11 _ (op_len o v) (op_known o f3), vO_some, outP_val, outP_enter]
  have x1 : Ext [] H (H.new (.cells 41 (opC o v))) := (Ext.refl _ _).new _
  generalize H.new (.cells 41 (opC o v)) = G at *
  refine m_core_Core_can_ok _ _ _ _ ?_
  unfold m_core_Core_can
  rw [op_box' o f1, outP_val]
  have x2 : Ext [] G (G.new (.cells 41 (opC o v))) := (Ext.refl _ _).new _
  have g2 := get_new_same G (.cells 41 (opC o v))
  generalize G.new (.cells 41 (opC o v)) = G2 at *
  have d1 : decide ((1 : Int) = 1) = true := rfl
  have l11 := ld11 41 (op_len o v) (op_known o f3)
  rw [w_fieldAddr_ptr, outP_val, w_load_c, Nat.zero_add, g2, op_f0, vO_some, outP_val, ho.kind]
  repeat (first | rw [outP_val] | rw [condP_true] | rw [d1] | rw [g2] | rw [l11] | rw [w_load_n] | rw [vO_some] | rw [w_eql])
  rw [outP_enter]
  refine create0_wp (h.mono0 (x1.trans x2)) o ho (hv.mono (x1.trans x2)) _ fun G3 x3 => ?_
  show outP CQ G3 (some (Out.val (AV.iface 44 (.int .i64 0)) G3)) _
  rw [outP_val, outP_enter]
  have xx := (x1.trans x2).trans x3
  exact coreAt_wp _ _ (fun _ => hK _ xx) fun q => absurd rfl q
/-- Whether a second one can be made: what is wrong with it. -/
theorem canCreate_wp {x s ms ix f mf : Nat} {seq : Int} {L : Ls} (h : C1 H c mc ma x s ms ix f mf seq L) {b : Nat} {v : AV} (o : OpV) (hk : o.kind = 1) (hv : VecF H b v o.vec) (hcl : o.col.length ≤ 9223372036854775807) (hne : createE o ≠ 0) (K : AV → AH → Prop)
    (hK : ∀ H' e, Ext [] H H' → ErrX H' e (createE o) → K e H') : CQ.call 17 [.ptr (some (c, 0)), opA o v] H K := by
  refine m_core_Core_Can_ok _ _ _ _ ?_
  unfold m_core_Core_Can
  obtain ⟨f1, f2, f3⟩ := slk_factsK hv.slk
  rw [op_box' o f1, outP_val, eq_cor, outP_val, condP_false, w_load_n, get_new_same, ld11 _ (op_len o v) (op_known o f3), vO_some, outP_val, outP_enter]
  have x1 : Ext [] H (H.new (.cells 41 (opC o v))) := (Ext.refl _ _).new _
  generalize H.new (.cells 41 (opC o v)) = G at *
  refine m_core_Core_can_ok _ _ _ _ ?_
  unfold m_core_Core_can
  rw [op_box' o f1, outP_val]
  have x2 : Ext [] G (G.new (.cells 41 (opC o v))) := (Ext.refl _ _).new _
  have g2 := get_new_same G (.cells 41 (opC o v))
  generalize G.new (.cells 41 (opC o v)) = G2 at *
  have d1 : decide ((1 : Int) = 1) = true := rfl
  have l11 := ld11 41 (op_len o v) (op_known o f3)
  rw [w_fieldAddr_ptr, outP_val, w_load_c, Nat.zero_add, g2, op_f0, vO_some, outP_val, hk]
  repeat (first | rw [outP_val] | rw [condP_true] | rw [d1] | rw [g2] | rw [l11] | rw [w_load_n] | rw [vO_some] | rw [w_eql])
  rw [outP_enter]
  refine create_wp' (h.mono0 (x1.trans x2)) o (hv.mono (x1.trans x2)) hcl hne _ fun G3 x3 => ?_
  show outP CQ G3 (some (Out.val (AV.iface 44 (.int .i64 (createE o))) G3)) _
  rw [outP_val, outP_enter]
  have xx := (x1.trans x2).trans x3
  exact coreAt_wp _ _ (fun q => absurd q hne) fun _ G4 e x4 he => hK G4 e (xx.trans x4) he
end
end Go.Ab
/- core: its first collection is made. -/
namespace Go.Ab
noncomputable section
open Go.Proofs
set_option maxRecDepth 10000
variable {H H' : AH} {c mc ma : Nat}

theorem Sto.mono_nil {fl : List Nat} {s ms : Nat} (h : Sto fl H s ms []) {m : List Nat} (e : Ext m H H') (h1 : s ∉ m) (h2 : ms ∉ m) : Sto fl H' s ms [] := by
  obtain ⟨clk, q1, q2⟩ := h.hm
  have n := e.next
  exact ⟨e.get h.slt h1 h.hs, ⟨clk, e.get h.mlt h2 q1, q2⟩, by have := h.slt; omega, by have := h.mlt; omega, by simp, by simp, by simp, by simp⟩
theorem bool_zero : zeroA PP 4 = some (.bool false) := by kernel_rfl
theorem col_build (s ix : Nat) : w_build PP 87 H [(0, .int .i64 0), (1, .int .i64 2), (2, .int .i64 1), (3, .ptr (some (s, 0))), (4, .ptr (some (ix, 0)))] = some (.val (.agg (colC s ix)) H) := by kernel_rfl
theorem beq_strK (a : List UInt8) : AV.beq (.str a) (.str a) = true := by simp [AV.beq, strEq_eq]
set_option maxHeartbeats 2000000 in
theorem made_wp {seq : Int} (hc : H.get c = some (.cells 81 (corC seq mc ma))) {clk clk' : Nat} (hmc : H.get mc = some (.mp [] clk)) (hma : H.get ma = some (.mp [] clk')) (cl : c < H.next) (mcl : mc < H.next) (mal : ma < H.next) (hne : mc ≠ ma) {b : Nat} {v : AV} (o : OpV) (ho : MkA o) (hv : VecF H b v o.vec) (K : AV → AH → Prop)
    (hK : ∀ H' x s ms ix f mf, Ext [mc] H H' → H.next ≤ ms → H.next ≤ mf → C1 H' c mc ma x s ms ix f mf seq [] → K (.tup []) H') : CQ.call 32 [.ptr (some (c, 0)), opA o v] H K := by
  refine m_core_Core_made_ok _ _ _ _ ?_
  unfold m_core_Core_made
  obtain ⟨f1, f2, f3⟩ := slk_factsK hv.slk
  rw [op_box' o f1, outP_val]
  have x1 : Ext [] H (H.new (.cells 41 (opC o v))) := (Ext.refl _ _).new _
  have g1 := get_new_same H (.cells 41 (opC o v))
  have n1 : (H.new (.cells 41 (opC o v))).next = H.next + 1 := rfl
  generalize H.new (.cells 41 (opC o v)) = G at *
  unfold m_core_Core_madet
  rw [w_make_map, outP_val]
  have x2 : Ext [] H (G.new (.mp (ents []) 0)) := x1.new _
  have g2 : (G.new (.mp (ents []) 0)).get H.next = _ := (get_new_ne _ (by omega)).trans g1
  have t2 := get_new_same G (.mp (ents []) 0)
  have n2 : (G.new (.mp (ents []) 0)).next = H.next + 2 := by rw [next_new, n1]
  rw [n1] at t2 ⊢
  generalize G.new (.mp (ents []) 0) = G2 at *
  have l1 : ∀ {G' : AH}, Ext [] H G' → ldV (G'.get c) 1 = some (.map (some mc)) := fun e => by rw [e.get cl (by simp) hc]; rfl
  unfold m_core_Core_madetth
  have q2 := x2.get mcl (by simp) hmc
  rw [w_nil_ptr, outP_val, w_fieldAddr_ptr, outP_val, w_load_c, Nat.zero_add, l1 x2, vO_some, outP_val, w_range1 rfl q2, outP_val]
  have x3 : Ext [] H (G2.new (.iter (some mc) clk [] clk)) := x2.new _
  have i3 := get_new_same G2 (.iter (some mc) clk [] clk)
  have g3 : (G2.new (.iter (some mc) clk [] clk)).get H.next = _ := (get_new_ne _ (by omega)).trans g2
  have t3 : (G2.new (.iter (some mc) clk [] clk)).get (H.next + 1) = _ := (get_new_ne _ (by omega)).trans t2
  have n3 : (G2.new (.iter (some mc) clk [] clk)).next = H.next + 3 := by rw [next_new, n2]
  rw [n2] at i3 ⊢
  generalize G2.new (.iter (some mc) clk [] clk) = G3 at *
  have q3 := x3.get mcl (by simp) hmc
  unfold m_core_Core_madetthtb
  refine loopP_rule (I := fun t G' => t = (.ptr (some (c, 0)), .ptr (some (H.next, 0)), .map (some (H.next + 1)), .ptr (some (H.next + 2, 0))) ∧ G' = G3) (μ := fun _ _ => 0) ?_ ⟨rfl, rfl⟩
  rintro t G' ⟨rfl, rfl⟩ rec hrec
  unfold m_core_Core_madetthtbl
  have ex0 : ∀ (G : AH) (l : List AV) (a : AV), w_extract 0 G (.tup (a :: l)) = some (.val a G) := fun _ _ _ => rfl
  have ex1 : ∀ (G : AH) (l : List AV) (a b : AV), w_extract 1 G (.tup (a :: b :: l)) = some (.val b G) := fun _ _ _ _ => rfl
  rw [next_none i3 q3, outP_val, ex0, outP_val, condP_false]
  unfold m_core_Core_madettt m_core_Core_madetttthb
  refine loopP_rule (I := fun t G => t = (.ptr (some (c, 0)), .ptr (some (H.next, 0)), .map (some (H.next + 1)), .int .i64 0) ∧ G = G') (μ := fun _ _ => 0) ?_ ⟨rfl, rfl⟩
  rintro t G'' ⟨rfl, rfl⟩ rec2 hrec2
  unfold m_core_Core_madetttthbl
  rw [w_look (M := []) int_und bool_zero t3, outP_val, show lookM (.bool false) [] 0 = .bool false from rfl, condP_false]
  repeat (first | rw [outP_val] | rw [g3] | rw [op_f4] | rw [op_f5] | rw [op_f6] | rw [ho.index] | rw [ho.metric] | rw [ho.dim] | rw [w_fieldAddr_ptr] | rw [Nat.zero_add] | rw [w_load_c] | rw [vO_some])
  rw [outP_enter]
  refine indexNew_wp 1 2 (.inl rfl) (by omega) _ fun G4 x4 hi4 n4 => ?_
  rw [ex0, outP_val, ex1, outP_val]
  have x34 := x3.trans x4
  have xm : Ext [] G4 (G4.more 1) := (Ext.refl _ _).more 1
  have x5 := x34.trans xm
  have nm : (G4.more 1).next = G4.next + 1 := next_more _ _
  have g5 : (G4.more 1).get H.next = some (.cells 41 (opC o v)) := xm.get (by omega) (by simp) (x4.get (by omega) (by simp) g3)
  rw [w_nil_ptr, outP_val, w_fieldAddr_ptr, outP_val, w_load_c, Nat.zero_add, l1 x5, vO_some, outP_val, w_fieldAddr_ptr, outP_val, w_load_c, Nat.zero_add, g5, op_f1, vO_some, outP_val, w_fieldAddr_ptr, outP_val, w_load_c, Nat.zero_add, g5, op_f4, vO_some, outP_val, w_fieldAddr_ptr, outP_val, w_load_c, Nat.zero_add, g5, op_f5, vO_some, outP_val, outP_enter]
  refine storeNew_wp [c, (G4.more 1).next, G''.next + 1] _ fun G6 x6 n6 st6 => ?_
  have x56 := x5.trans x6
  have g6 : G6.get H.next = some (.cells 41 (opC o v)) := x6.get (by omega) (by simp) g5
  rw [w_load_c, l1 x56, vO_some, reC_val, beq_map, ckP_true, w_load_c, g6, op_f1, vO_some, reC_val, beq_strK, ckP_true, w_load_c, g6, op_f4, vO_some, reC_val, beq_intK, ckP_true, w_load_c, g6, op_f5, vO_some, reC_val, beq_intK, ckP_true, ho.dim, ho.metric, ho.col, col_build, outP_val, w_box_atK rfl, outP_val]
  have z0 : Nat.add G4.next 0 = G4.next := rfl
  rw [z0]
  have x7 : Ext [G4.next] G6 (G6.put G4.next (some (.cells 87 (AV.agg (colC ((G4.more 1).next + 1) G''.next)).parts))) := (Ext.refl _ _).put (.inr (by simp)) _
  have y7 : Ext [] H (G6.put G4.next (some (.cells 87 (AV.agg (colC ((G4.more 1).next + 1) G''.next)).parts))) := x56.put (.inl (by omega)) _
  have g7 := get_put_same (H := G6) G4.next (some (.cells 87 (AV.agg (colC ((G4.more 1).next + 1) G''.next)).parts))
  have n7 : (G6.put G4.next (some (.cells 87 (AV.agg (colC ((G4.more 1).next + 1) G''.next)).parts))).next = G6.next := AH.next_put _ _ _
  generalize G6.put G4.next (some (.cells 87 (AV.agg (colC ((G4.more 1).next + 1) G''.next)).parts)) = G7 at *
  have q7 := y7.get mcl (by simp) hmc
  have a7 := y7.get mal (by simp) hma
  have c7 := y7.get cl (by simp) hc
  rw [w_new1 q7, outP_skip]
  have x8 : Ext [mc] G7 (G7.put mc (some (.mp [(.str [97], .ptr (some (G4.next, 0)), clk)] (clk + 1)))) := (Ext.refl _ _).put (.inr (by simp)) _
  have nc : c ≠ mc := fun e => by rw [e, hmc] at hc; cases hc
  have na : ma ≠ mc := Ne.symm hne
  have n8 : (G7.put mc (some (.mp [(.str [97], .ptr (some (G4.next, 0)), clk)] (clk + 1)))).next = G7.next := AH.next_put _ _ _
  have st8 : Sto [c, (G4.more 1).next, G''.next + 1] (G7.put mc (some (.mp [(.str [97], .ptr (some (G4.next, 0)), clk)] (clk + 1)))) ((G4.more 1).next + 1) (G4.more 1).next [] :=
    (st6.mono_nil x7 (by simp; omega) (by simp; omega)).mono_nil x8 (by simp; omega) (by simp; omega)
  have hi8 : Flt (G7.put mc (some (.mp [(.str [97], .ptr (some (G4.next, 0)), clk)] (clk + 1)))) G''.next (G''.next + 2) (G''.next + 1) 1 2 :=
    (((hi4.mono xm (by simp) (by simp) (by simp)).mono x6 (by simp) (by simp) (by simp)).mono x7 (by simp; omega) (by simp; omega) (by simp; omega)).mono x8 (by simp; omega) (by simp; omega) (by simp; omega)
  have y8 : Ext [mc] H (G7.put mc (some (.mp [(.str [97], .ptr (some (G4.next, 0)), clk)] (clk + 1)))) := (y7.mono (by simp)).trans x8
  refine hK _ G4.next ((G4.more 1).next + 1) (G4.more 1).next G''.next (G''.next + 2) (G''.next + 1) y8 (by omega) (by omega)
    ⟨x8.get (by omega) (by simpa using nc) c7, ⟨_, _, get_put_same _ _, Nat.lt_succ_self _⟩, ⟨_, x8.get (by omega) (by simpa using na) a7⟩, x8.get (by omega) (by simp; omega) g7, st8, hi8, by omega, by omega, by omega, by omega, by omega, by omega, by omega, by omega, by omega⟩
end
end Go.Ab
/- core: what is done: the first collection. -/
namespace Go.Ab
noncomputable section
open Go.Proofs
set_option maxRecDepth 10000
variable {H H' : AH} {c mc ma : Nat}

set_option maxHeartbeats 2000000 in
theorem doMk_wp (h : CE0 H c mc ma) {b : Nat} {v : AV} (o : OpV) (ho : MkA o) (hv : VecF H b v o.vec) (hb : b ≠ c) (K : AV → AH → Prop)
    (hK : ∀ H' x s ms ix f mf, Ext [c, mc] H H' → H.next ≤ ms → H.next ≤ mf → C1 H' c mc ma x s ms ix f mf 1 [] → K (.tup [.agg (repC 0), .nilIface]) H') :
    CQ.call 9 [.ptr (some (c, 0)), opA o v] H K := by
  refine m_core_Core_Do_ok _ _ _ _ ?_
  unfold m_core_Core_Do
  obtain ⟨f1, f2, f3⟩ := slk_factsK hv.slk
  rw [op_box' o f1, outP_val, w_alloc_none, outP_val]
  have x1 : Ext [] H ((H.new (.cells 41 (opC o v))).new (.cells 34 (repC 0))) := ((Ext.refl _ _).new _).new _
  have g1 : ((H.new (.cells 41 (opC o v))).new (.cells 34 (repC 0))).get H.next = some (.cells 41 (opC o v)) := by rw [get_new_ne _ (by rw [next_new]; omega), get_new_same]
  have g2 := get_new_same (H.new (.cells 41 (opC o v))) (.cells 34 (repC 0))
  have nn : ((H.new (.cells 41 (opC o v))).new (.cells 34 (repC 0))).next = H.next + 2 := rfl
  rw [show (H.new (.cells 41 (opC o v))).next = H.next + 1 from rfl] at g2 ⊢
  generalize (H.new (.cells 41 (opC o v))).new (.cells 34 (repC 0)) = G at *
  have l11 := ld11 41 (op_len o v) (op_known o f3)
  unfold m_core_Core_Dot
  rw [w_load_n, g1, l11, vO_some, outP_val, outP_enter]
  refine canMk_wp (h.mono0 x1) o ho (hv.mono x1) _ fun G2 x2 => ?_
  rw [err_nilN, outP_val, condP_false]
  have x12 := x1.trans x2
  have h2 := h.mono0 x12
  have hv2 := hv.mono x12
  have ga2 : G2.get H.next = _ := x2.get (by omega) (by simp) g1
  have gb2 : G2.get (H.next + 1) = _ := x2.get (by omega) (by simp) g2
  have n2 := x2.next
  have hcl := h.cl
  have hml := h.mcl
  have hal := h.mal
  unfold m_core_Core_Dott
  have l0 : ldV (G2.get c) 0 = some (.int .i64 0) := by rw [h2.hc]; rfl
  rw [w_nil_ptr, outP_val, w_fieldAddr_ptr, outP_val, w_load_c, Nat.zero_add, l0, vO_some, outP_val, w_add_in (by omega) (by omega), outP_val, w_nil_ptr, outP_val, w_fieldAddr_ptr, outP_val, w_store_c, Nat.zero_add, h2.hc, stN_one _ _ _ _ _ rfl (by show 0 < 8; decide), outP_skip]
  have hset : (corC 0 mc ma).set 0 (.int .i64 ((0 : Int) + 1)) = corC 1 mc ma := rfl
  rw [hset]
  obtain ⟨clk, q1⟩ := h2.hmc
  obtain ⟨clk', q2⟩ := h2.hma
  have hc2 := h2.hc
  have nc1 : mc ≠ c := fun e => by rw [e, hc2] at q1; cases q1
  have nc2 : ma ≠ c := fun e => by rw [e, hc2] at q2; cases q2
  have x3 : Ext [c] G2 (G2.put c (some (.cells 81 (corC 1 mc ma)))) := (Ext.refl _ _).put (.inr (by simp)) _
  have n3 : (G2.put c (some (.cells 81 (corC 1 mc ma)))).next = G2.next := AH.next_put _ _ _
  have c3 := get_put_same (H := G2) c (some (.cells 81 (corC 1 mc ma)))
  generalize G2.put c (some (.cells 81 (corC 1 mc ma))) = G3 at *
  have ga3 : G3.get H.next = _ := x3.get (by omega) (by simp; omega) ga2
  have gb3 : G3.get (H.next + 1) = _ := x3.get (by omega) (by simp; omega) gb2
  have hv3 : VecF G3 b v o.vec := ⟨Sl.mono hv2.is x3 (by simpa using hb), hv.len⟩
  have q1' := x3.get (by omega) (by simpa using nc1) q1
  have q2' := x3.get (by omega) (by simpa using nc2) q2
  have d1 : decide ((1 : Int) = 1) = true := rfl
  unfold m_core_Core_Dottt m_core_Core_Dotttth
  rw [w_fieldAddr_ptr, outP_val, w_load_c, Nat.zero_add, ga3, op_f0, vO_some, outP_val, ho.kind]
  unfold m_core_Core_Dotttthtb
  rw [w_eql, outP_val, d1]
  unfold m_core_Core_Dotttthtbt
  rw [condP_true]
  unfold m_core_Core_Dotttthtbty
  rw [w_load_n, ga3, l11, vO_some, outP_val, outP_enter]
  refine made_wp (seq := 1) c3 q1' q2' (by omega) (by omega) (by omega) h.ne o ho hv3 _ fun G4 x s ms ix f mf x4 bs bf h4 => ?_
  have gb4 : G4.get (H.next + 1) = _ := x4.get (by omega) (by simp; omega) gb3
  unfold m_core_Core_Dottttt
  show outP CQ G4 (w_build PP 34 G4 [(2, .int .i64 0)]) _
  rw [rep_build, outP_val, w_store_c, gb4, stG (n := 20) _ _ rfl rfl (by decide) rfl, outP_skip, endG' (n := 20) (get_put_same _ _) rfl rfl]
  have x5 := ext_same gb4
  exact hK _ x s ms ix f mf (((((x12.mono (m' := [c, mc]) (by simp)).trans (x3.mono (by simp))).trans (x4.mono (by simp)))).trans (x5.mono (by simp))) (by omega) (by omega) (h4.mono0 x5)
end
end Go.Ab
