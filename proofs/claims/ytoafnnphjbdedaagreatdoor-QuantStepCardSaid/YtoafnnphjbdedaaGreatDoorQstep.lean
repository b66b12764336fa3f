/- QuantStep: what it does, at any two numbers and any byte. -/
import Derived.Test.YtoafnnphjbdedaaGreatDoorMake
import Derived.Test.YtoafnnphjbdedaaGreatDoorM12
namespace Go.Ab
noncomputable section
open Go.Proofs
set_option maxRecDepth 10000
variable {H H' : AH}

theorem bs_vec2 (b1 b2 : Nat) : w_buildSlice PP 28 2 H [(0, .slice (some (b1, 0)) 1 1 true), (1, .slice (some (b2, 0)) 1 1 true)] none = some (.val (.slice (some (H.next, 0)) 2 2 true) (H.new (.cells 28 [.slice (some (b1, 0)) 1 1 true, .slice (some (b2, 0)) 1 1 true]))) := by
  have h1 : Nat.ble (2 * 1) 16777216 = true := rfl
  have h2 : fillA (fun i => some (i * 1, 1)) [(0, AV.slice (some (b1, 0)) 1 1 true), (1, .slice (some (b2, 0)) 1 1 true)] (reps 2 [AV.slice none 0 0 true]) = some [.slice (some (b1, 0)) 1 1 true, .slice (some (b2, 0)) 1 1 true] := rfl
  have h3 : allB (fun x : Nat × AV => allB AV.one x.2.parts) [(0, AV.slice (some (b1, 0)) 1 1 true), (1, .slice (some (b2, 0)) 1 1 true)] = true := rfl
  simp only [w_buildSlice, oBuildSlice, vec_el, h1, h2, h3, br_true, val_mk, ob_some, newSlice, newTo_none_eq]
theorem step_law {lo hi : Int} (h : lo ≤ hi) (h1 : -1048575 ≤ lo) (h2 : hi ≤ 1048575) (s1 s2 : AV) (b1 b2 : Nat) : makeLo [(s1, b1, [hi]), (s2, b2, [lo])] 1 = [lo] ∧ makeSt [(s1, b1, [hi]), (s2, b2, [lo])] 1 = [stepZ lo hi] := by
  have m1 : mayB [hi] 1 = true := (mayB_iff _ _).2 ⟨by decide, by decide, rfl, fun x hx => by simp at hx; omega⟩
  have m2 : mayB [lo] 1 = true := (mayB_iff _ _).2 ⟨by decide, by decide, rfl, fun x hx => by simp at hx; omega⟩
  have g : goodL [(s1, b1, [hi]), (s2, b2, [lo])] 1 = [[hi], [lo]] := by simp [goodL, goodV, m1, m2]
  have e : lhS [[hi], [lo]] 0 2 = (lo, hi) := by
    show ((min (min hi hi) lo, max (max hi hi) lo) : Int × Int) = _
    rw [Int.min_self, Int.max_self, Int.min_eq_right h, Int.max_eq_left h]
  have n1 : makeN 1 = 1 := by decide
  unfold makeLo makeSt
  rw [g, n1]
  refine ⟨?_, ?_⟩
  · show [lowF [[hi], [lo]] 0] = _
    unfold lowF
    show [(lhS [[hi], [lo]] 0 2).1] = _
    rw [e]
  · show [stpF [[hi], [lo]] 0] = _
    unfold stpF
    show [stepZ (lhS [[hi], [lo]] 0 2).1 (lhS [[hi], [lo]] 0 2).2] = _
    rw [e]
theorem right1 (lo st : Int) (h : 1 ≤ st) : rightB [lo] [st] = true := (rightB_iff _ _).2 ⟨rfl, fun x hx => by simp at hx; omega⟩
theorem beq_i32 (x : Int) : AV.beq (.int .i32 x) (.int .i32 x) = true := by simp [AV.beq, eqZ_eq, kEq]
theorem step_wp {lo hi n : Int} (h : lo ≤ hi) (h1 : -1048575 ≤ lo) (h2 : hi ≤ 1048575) (hn : 0 ≤ n ∧ n ≤ 255) (K : AV → AH → Prop) (hK : ∀ H', Ext [] H H' → K (.bool true) H') : m_fieldfarelaw7_QuantStepttttt K (.int .i32 lo) (.int .i32 hi) (.int .u8 n) H := by
  unfold m_fieldfarelaw7_QuantStepttttt
  rw [bs_num i32_el, outP_val, bs_num i32_el, outP_val, bs_vec2, outP_val, outP_enter]
  have o1 := os_one (H := H) 21 .i32 hi
  have o2 := os_one (H := H.new (.cells 21 [.int .i32 hi])) 21 .i32 lo
  have x1 : Ext [] H (H.new (.cells 21 [.int .i32 hi])) := (Ext.refl _ _).new _
  have x2 : Ext [] (H.new (.cells 21 [.int .i32 hi])) ((H.new (.cells 21 [.int .i32 hi])).new (.cells 21 [.int .i32 lo])) := (Ext.refl _ _).new _
  have n1 : (H.new (.cells 21 [.int .i32 hi])).next = H.next + 1 := next_new _ _
  have n2 : ((H.new (.cells 21 [.int .i32 hi])).new (.cells 21 [.int .i32 lo])).next = H.next + 2 := by rw [next_new, next_new]
  rw [n1] at *
  generalize (H.new (.cells 21 [.int .i32 hi])).new (.cells 21 [.int .i32 lo]) = G0 at *
  have v1 : Is .i32 G0 H.next (.slice (some (H.next, 0)) 1 1 true) [hi] := Sl.mono (Own.sl o1) x2 (by simp)
  have v2 : Is .i32 G0 (H.next + 1) (.slice (some (H.next + 1, 0)) 1 1 true) [lo] := Own.sl o2
  rw [n2]
  have x3 : Ext [] G0 (G0.new (.cells 28 [.slice (some (H.next, 0)) 1 1 true, .slice (some (H.next + 1, 0)) 1 1 true])) := (Ext.refl _ _).new _
  have o3 : Sl (G0.new (.cells 28 [.slice (some (H.next, 0)) 1 1 true, .slice (some (H.next + 1, 0)) 1 1 true])) 1 (H.next + 2) (.slice (some (H.next + 2, 0)) 2 2 true) (vrow [(.slice (some (H.next, 0)) 1 1 true, H.next, [hi]), (.slice (some (H.next + 1, 0)) 1 1 true, H.next + 1, [lo])]) := by
    refine Own.sl (e := 28) ⟨.inr ⟨0, 2, true, _, rfl, by rw [← n2]; exact get_new_same _ _, Nat.le_refl _, Nat.le_refl _, fun q => (by cases q), rfl, by rw [next_new]; omega⟩, by simp, by simp [AV.known], by simp [AV.one]⟩
  have x12 := x1.trans x2
  have e1 : VEl G0 (.slice (some (H.next, 0)) 1 1 true, H.next, [hi]) := ⟨v1, fun x hx => by simp at hx; omega⟩
  have e2 : VEl G0 (.slice (some (H.next + 1, 0)) 1 1 true, H.next + 1, [lo]) := ⟨v2, fun x hx => by simp at hx; omega⟩
  refine make_wp o3 (by simp) (fun y hy => ?_) 1 _ fun G1 l s bl bs x4 hbl hbs hbk => ?_
  · simp only [List.mem_cons, List.not_mem_nil, or_false] at hy
    rcases hy with rfl | rfl
    · exact e1.mono0 x3
    · exact e2.mono0 x3
  obtain ⟨m1, m2⟩ := step_law h h1 h2 (.slice (some (H.next, 0)) 1 1 true) (.slice (some (H.next + 1, 0)) 1 1 true) H.next (H.next + 1)
  rw [m1, m2] at hbk
  have x14 := x12.trans (x3.trans x4)
  have hst := stepZ_in (by omega) h (show hi ≤ 1048576 by omega)
  have hreach := stepZ_reach (low := lo) (high := hi)
  have hleast := @stepZ_least lo hi
  generalize stepZ lo hi = st at *
  obtain ⟨f1, f2, _, f3⟩ := hbk.lo.facts
  obtain ⟨g1, g2, _, g3⟩ := hbk.st.facts
  have sk1 := Sl.slk hbk.lo
  have sk2 := Sl.slk hbk.st
  rw [w_alloc_none, outP_val, w_store_c, get_new_same, stN_two _ _ _ _ _ _ f1 g1, outP_skip]
  have x5 : Ext [] G1 ((G1.new (.cells 65 [.slice none 0 0 true, .slice none 0 0 true])).put G1.next (some (.cells 65 [l, s]))) := ((Ext.refl _ _).new _).put (.inl (Nat.le_refl _)) _
  have hp := get_put_same (H := G1.new (.cells 65 [.slice none 0 0 true, .slice none 0 0 true])) G1.next (some (.cells 65 [l, s]))
  have hpn : G1.next < ((G1.new (.cells 65 [.slice none 0 0 true, .slice none 0 0 true])).put G1.next (some (.cells 65 [l, s]))).next := by rw [AH.next_put, next_new]; omega
  have hbk := hbk.mono0 x5
  have x15 := x14.trans x5
  generalize (G1.new (.cells 65 [.slice none 0 0 true, .slice none 0 0 true])).put G1.next (some (.cells 65 [l, s])) = G at *
  generalize G1.next = p at *
  have ldl : ∀ G' : AH, Ext [] G G' → ldV (G'.get p) 0 = some l := fun G' e => by rw [e.get hpn (by simp) hp, ldV_cells, show ([l, s] : List AV)[0]? = some l from rfl, ob_some, f2]
  have lds : ∀ G' : AH, Ext [] G G' → ldV (G'.get p) 1 = some s := fun G' e => by rw [e.get hpn (by simp) hp, ldV_cells, show ([l, s] : List AV)[1]? = some s from rfl, ob_some, g2]
  have ld2 : ∀ G' : AH, Ext [] G G' → ldN 2 (G'.get p) 0 = some (.agg [l, s]) := fun G' e => by rw [e.get hpn (by simp) hp, ldN_two _ f3 g3]
  obtain ⟨ol, a1, a2, a3⟩ := hbk.lo.at (j := 0) (by simp)
  obtain ⟨os', c1, c2, c3⟩ := hbk.st.at (j := 0) (by simp)
  have a1' : ∀ G' : AH, w_indexAddr (.sl 1) G' l (.int .i64 0) = some (.val (.ptr (some (bl, ol))) G') := a1
  have c1' : ∀ G' : AH, w_indexAddr (.sl 1) G' s (.int .i64 0) = some (.val (.ptr (some (bs, os'))) G') := c1
  have a3' : ldV (G.get bl) ol = some (.int .i32 lo) := a3
  have c3' : ldV (G.get bs) os' = some (.int .i32 st) := c3
  have ls := hbk.st.len i32_sl
  have ls' : ∀ G' : AH, w_len PP 27 G' s = some (.val (.int .i64 1) G') := ls
  have r0 := Ext.refl [] G
  have i1 : IntKind.i64.wrap lo = lo := wrap64_in (by omega) (by omega)
  have i2 : IntKind.i64.wrap st = st := wrap64_in (by omega) (by omega)
  have i3 : IntKind.i64.wrap hi = hi := wrap64_in (by omega) (by omega)
  have i4 : IntKind.i64.wrap (255 * st) = 255 * st := wrap64_in (by omega) (by omega)
  have i5 : IntKind.i64.wrap (lo + 255 * st) = lo + 255 * st := wrap64_in (by omega) (by omega)
  have d0 : decide ((1 : Int) = 1) = true := rfl
  have d1 : decide (lo = lo) = true := decide_eq_true rfl
  have d2 : decide (lo + 255 * st < hi) = false := decide_eq_false (by omega)
  simp only [outP_val, boolIs_bool, beq_ff, beq_tt, Bool.not_true, Bool.not_false, guardP_true, w_pick_b, if_false, Bool.false_eq_true, vO_some, w_load_c, w_load_n, w_fieldAddr_ptr, Nat.zero_add, Nat.add_zero, decide_true, ldl G r0, lds G r0, ls', w_neq, a1', a3', c1', c3', w_cint, i1, i2, i3, w_mul, w_add, i4, i5, w_lss, d2, w_gtr]
  have hm0 : 0 ≤ n * st := Int.mul_nonneg hn.1 (by omega)
  have hm1 : n * st ≤ 255 * 10000 := Int.mul_le_mul hn.2 hst.2 (by omega) (by decide)
  have j1 : IntKind.i64.wrap n = n := wrap64_in (by omega) (by omega)
  have j2 : IntKind.i64.wrap (n * st) = n * st := wrap64_in (by omega) (by omega)
  have j3 : IntKind.i64.wrap (lo + n * st) = lo + n * st := wrap64_in (by omega) (by omega)
  have hcode : codeZ lo st (lo + n * st) = n := codeZ_step (by omega) hn.1 hn.2
  have hback : n * st = st * n := Int.mul_comm _ _
  by_cases cs : 1 < st
  case' pos =>
    have d3 : decide (1 < st) = true := decide_eq_true cs
    have i6 : IntKind.i32.wrap (st - 1) = st - 1 := wrap32_in (by omega) (by omega)
    have i7 : IntKind.i64.wrap (st - 1) = st - 1 := wrap64_in (by omega) (by omega)
    have i8 : IntKind.i64.wrap (255 * (st - 1)) = 255 * (st - 1) := wrap64_in (by omega) (by omega)
    have i9 : IntKind.i64.wrap (lo + 255 * (st - 1)) = lo + 255 * (st - 1) := wrap64_in (by omega) (by omega)
    have d4 : decide (hi ≤ lo + 255 * (st - 1)) = false := decide_eq_false (by have := hleast cs; omega)
    simp only [outP_val, guardP_true, if_true, condP_false, vO_some, w_load_c, d3, lds G r0, c1', c3', w_cint, i1, i2, i3, w_sub, i6, i7, w_mul, i8, w_add, i9, w_geq, d4, w_gtr, j1, j2, j3]
  case' neg =>
    have d3 : decide (1 < st) = false := decide_eq_false cs
    simp only [outP_val, guardP_false, if_false, Bool.false_eq_true, condP_false, vO_some, w_load_c, d3, lds G r0, c1', c3', w_cint, i2, w_mul, w_add, w_gtr, j1, j2, j3]
  all_goals
    by_cases cx : 1048576 < lo + n * st
    · rw [decide_eq_true cx, condP_true]
      exact hK _ x15
    · rw [decide_eq_false cx, condP_false]
      have hx0 : lo ≤ lo + n * st := by omega
      generalize hx : lo + n * st = x at *
      have j4 : IntKind.i32.wrap x = x := wrap32_in (by omega) (by omega)
      rw [ld2 G r0, vO_some, outP_val, j4, bs_num i32_el, outP_val, outP_enter]
      have y1 : Ext [] G (G.new (.cells 21 [.int .i32 x])) := (Ext.refl _ _).new _
      have ox := Own.sl (os_one (H := G) 21 .i32 x)
      have hcl : codeL [lo] [st] [x] = [n] := by
        unfold codeL
        rw [if_pos (right1 lo st (by omega))]
        show [codeF [lo] [st] [x] 0] = _
        unfold codeF
        show [if 0 < 1 then codeZ lo st x else 0] = _
        rw [if_pos (by omega), hcode]
      have hbl : backL [lo] [st] [n] = [x] := by
        unfold backL
        rw [if_pos (right1 lo st (by omega))]
        show [backF [lo] [st] [n] 0] = _
        unfold backF
        show [backZ lo st (if 0 < 1 then n else 0)] = _
        rw [if_pos (by omega)]
        unfold backZ
        congr 1; omega
      have hbo : boundL [lo] [st] = (st + 1) / 2 := by
        unfold boundL
        rw [if_pos (right1 lo st (by omega))]
        show max 0 ((st + 1) / 2) = _
        omega
      refine qCode_wp (hbk.mono0 y1) ox (fun z hz => by simp at hz; omega) (by simp) _ fun G6 c Bc y2 hBc oc => ?_
      rw [hcl] at oc
      have y3 : Ext [] G (G6.more 1) := (y1.trans y2).more 1
      have n6 := (y1.trans y2).next
      have oc' : Os 5 .u8 (G6.more 1) Bc c [n] := Own.mono oc ((Ext.refl [] G6).more 1) (by simp)
      have lc : ∀ G' : AH, w_len PP 72 G' c = some (.val (.int .i64 1) G') := oc'.is.len u8_sl
      obtain ⟨oo, k1, k2, k3⟩ := oc'.is.at (j := 0) (by simp)
      have k1' : ∀ G' : AH, w_indexAddr (.sl 1) G' c (.int .i64 0) = some (.val (.ptr (some (Bc, oo))) G') := k1
      have k3' : ldV ((G6.more 1).get Bc) oo = some (.int .u8 n) := k3
      have dn : decide (n = n) = true := decide_eq_true rfl
      simp only [outP_val, boolIs_bool, beq_tt, guardP_true, w_pick_b, if_true, vO_some, w_load_c, reC_val, decide_true, lc, w_eql, k1', k3', ld2 _ y3, w_cint, j4]
      rw [outP_enter]
      refine qBack_wp (hbk.mono0 y3) oc'.is (fun z hz => by simp at hz; omega) (by simp) _ fun G7 bk Bb y4 hBb ob => ?_
      rw [hbl] at ob
      rw [next_more] at hBb
      have n7 := y4.next
      rw [next_more] at n7
      have y5 := y3.trans y4
      simp only [ckP_true, beq_i32]
      rw [show Nat.add G6.next 0 = G6.next from rfl, bs_num_at i32_el, outP_val, outP_enter]
      have y6 : Ext [G6.next] G7 (G7.put G6.next (some (.cells 21 [.int .i32 x]))) := (Ext.refl _ _).put (.inr (by simp)) _
      have y7 : Ext [] G (G7.put G6.next (some (.cells 21 [.int .i32 x]))) := y5.put (.inl n6) _
      have oz : Os 21 .i32 (G7.put G6.next (some (.cells 21 [.int .i32 x]))) G6.next (.slice (some (G6.next, 0)) 1 1 true) [x] :=
        ⟨.inr ⟨0, 1, true, _, rfl, get_put_same _ _, Nat.le_refl _, Nat.le_refl _, fun q => (by cases q), rfl, by rw [AH.next_put]; omega⟩, by simp, by simp [AV.known], by simp [AV.one]⟩
      refine vecEq_wp (Own.sl (Own.mono ob y6 (by simp; omega))) (Own.sl oz) (by simp) _ ?_
      rw [decide_eq_true rfl]
      have c3z : ldV ((G7.put G6.next (some (.cells 21 [.int .i32 x]))).get bs) os' = some (.int .i32 st) := by rw [y7.same bs c2 (by simp)]; exact c3'
      have i32a : IntKind.i32.wrap (st + 1) = st + 1 := wrap32_in (by omega) (by omega)
      have i32b : IntKind.i32.wrap ((st + 1).tdiv 2) = (st + 1) / 2 := by rw [tdiv2 (by omega), wrap32_in (by omega) (by omega)]
      simp only [outP_val, boolIs_bool, beq_tt, guardP_true, w_pick_b, if_true, vO_some, w_load_c, ld2 _ y7, lds _ y7, c1', c3z, w_add, i32a, w_quo _ _ _ (show (2 : Int) ≠ 0 by decide), i32b]
      rw [outP_enter]
      refine qBound_wp (hbk.mono0 y7) _ fun G8 y8 => ?_
      rw [hbo]
      have c3y : ldV (G8.get bs) os' = some (.int .i32 st) := by rw [y8.same bs (Nat.lt_of_lt_of_le c2 y7.next) (by simp)]; exact c3z
      have dm : decide ((st + 1) / 2 = (st + 1) / 2) = true := decide_eq_true rfl
      simp only [outP_val, vO_some, reC_val, ckP_true, decide_true, lds _ (y7.trans y8), c3y, beq_slk sk2, beq_i32, w_eql ]
      exact hK _ (x15.trans (y7.trans y8))
theorem quantStep_wp {low high n : Int} (hn : 0 ≤ n ∧ n ≤ 255) (hl : Laid H) (K : AV → AH → Prop) (hK : ∀ H', Ext [] H H' → K (.bool true) H') : CC.call 12 [.int .i32 low, .int .i32 high, .int .u8 n] H K := by
  refine m_fieldfarelaw7_QuantStep_ok _ _ _ _ _ ?_
  unfold m_fieldfarelaw7_QuantStep m_fieldfarelaw7_QuantStept
  rw [outP_enter]
  refine begun_wp hl _ ?_
  unfold m_fieldfarelaw7_QuantSteptt
  rw [w_not, outP_val, Bool.not_true, condP_false]
  unfold m_fieldfarelaw7_QuantStepttt
  have q : (1048576 : Int) ≠ 0 := by decide
  have a1 := Int.lt_tmod_of_pos low (show (0 : Int) < 1048576 by decide)
  have a2 := Int.tmod_lt_of_pos low (show (0 : Int) < 1048576 by decide)
  have b1 := Int.lt_tmod_of_pos high (show (0 : Int) < 1048576 by decide)
  have b2 := Int.tmod_lt_of_pos high (show (0 : Int) < 1048576 by decide)
  rw [w_rem _ _ _ q, outP_val, w_rem _ _ _ q, outP_val]
  generalize low.tmod 1048576 = lo at *
  generalize high.tmod 1048576 = hi at *
  unfold m_fieldfarelaw7_QuantSteptttt
  rw [w_gtr, outP_val]
  by_cases c : hi < lo
  · rw [decide_eq_true c, condP_true]
    exact step_wp (by omega) (by omega) (by omega) hn K hK
  · rw [decide_eq_false c, condP_false]
    exact step_wp (by omega) (by omega) (by omega) hn K hK
end
end Go.Ab
