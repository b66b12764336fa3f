/- What the core's laws make of their input. -/
import Derived.Test.YtlbjmgpbgkiejaaGreatDoorCorH
import Derived.Test.YtlbjmgpbgkiejaaGreatDoorMK
namespace Go.Ab
noncomputable section
open Go.Proofs
set_option maxRecDepth 10000
variable {H H' : AH}

/-! Texts. -/
theorem w_slice_str {t : List UInt8} {k : Nat} (hk : k ≤ t.length) : w_slice .str true false H (.str t) none (some (.int .i64 k)) none = some (.val (.str (t.take k)) H) := by
  show vO H (bndsTo t.length t.length none (some (.int .i64 (k : Int))) none fun l h _ => some (AV.str ((t.drop l).take (h - l)))) = _
  unfold bndsTo
  show vO H (ob (some t.length) fun m => ob (bndA m (.int .i64 (k : Int))) fun h => ob (some 0) fun l => some (AV.str ((t.drop l).take (h - l)))) = _
  rw [ob_some, bndA_of .i64 hk, ob_some, ob_some]
  rfl
theorem law1Text_wp (t : List UInt8) (n : Nat) (K : AV → AH → Prop) (hK : K (.str (t.take n)) H) : CQ.call 42 [.str t, .int .i64 n] H K := by
  refine m_fieldfarelaw1_Text_ok _ _ _ _ ?_
  unfold m_fieldfarelaw1_Text
  rw [len_strK, outP_val, w_min2_int, outP_val]
  obtain ⟨k, hk⟩ : ∃ k : Nat, min (t.length : Int) (n : Int) = k := ⟨min t.length n, by omega⟩
  rw [hk, w_slice_str (by omega), outP_val]
  have : t.take k = t.take n := by
    have hk' : k = min t.length n := by omega
    rw [hk', List.take_eq_take_iff]; omega
  rw [this]; exact hK
set_option maxHeartbeats 1000000 in
theorem fit_wp {b : Nat} {v : AV} (o : OpV) (hv : VecF H b v o.vec) (K : AV → AH → Prop) (hK : ∀ H' o' v', Ext [] H H' → VecF H' b v' o'.vec → o'.vec.length ≤ 9 → o'.pay.length ≤ 45 → K (opA o' v') H') : CQ.call 14 [opA o v] H K := by
  refine m_fieldfarelaw23_Fit_ok _ _ _ ?_
  unfold m_fieldfarelaw23_Fit
  obtain ⟨f1, f2, f3⟩ := slk_factsK hv.slk
  rw [op_box' o f1, outP_val, op_alloc, outP_val]
  have x1 : Ext [] H ((H.new (.cells 41 (opC o v))).new (.cells 41 (opC OpV.zero (.slice none 0 0 true)))) := ((Ext.refl _ _).new _).new _
  have g1 : ((H.new (.cells 41 (opC o v))).new (.cells 41 (opC OpV.zero (.slice none 0 0 true)))).get H.next = some (.cells 41 (opC o v)) := by rw [get_new_ne _ (by rw [next_new]; omega), get_new_same]
  have g2 := get_new_same (H.new (.cells 41 (opC o v))) (.cells 41 (opC OpV.zero (.slice none 0 0 true)))
  rw [show (H.new (.cells 41 (opC o v))).next = H.next + 1 from rfl] at g2 ⊢
  generalize (H.new (.cells 41 (opC o v))).new (.cells 41 (opC OpV.zero (.slice none 0 0 true))) = G at *
  have n1 := x1.next
  repeat (first | rw [outP_val] | rw [g1] | rw [op_f1] | rw [op_f2] | rw [w_fieldAddr_ptr] | rw [Nat.zero_add] | rw [w_load_c] | rw [vO_some])
  rw [outP_enter]
  refine law1Text_wp o.col 14 _ ?_
  rw [w_load_c, g1, op_f2, vO_some, reC_val, beq_strK, ckP_true, w_fieldAddr_ptr, outP_val, outP_enter]
  refine law1Text_wp o.name 14 _ ?_
  rw [Nat.zero_add, w_store_c, g1, op_s1, outP_skip, w_fieldAddr_ptr, outP_val, Nat.zero_add, w_store_c, get_put_same, op_s2, outP_skip]
  have x2 : Ext [] H ((G.put H.next (some (.cells 41 (opC (o.s1 (o.col.take 14)) v)))).put H.next (some (.cells 41 (opC ((o.s1 (o.col.take 14)).s2 (o.name.take 14)) v)))) := (x1.put (.inl (Nat.le_refl _)) _).put (.inl (Nat.le_refl _)) _
  have g3 := get_put_same (H := G.put H.next (some (.cells 41 (opC (o.s1 (o.col.take 14)) v)))) H.next (some (.cells 41 (opC ((o.s1 (o.col.take 14)).s2 (o.name.take 14)) v)))
  have g4 : ((G.put H.next (some (.cells 41 (opC (o.s1 (o.col.take 14)) v)))).put H.next (some (.cells 41 (opC ((o.s1 (o.col.take 14)).s2 (o.name.take 14)) v)))).get (H.next + 1) = _ := ((get_put_ne _ (by omega)).trans (get_put_ne _ (by omega))).trans g2
  generalize (G.put H.next (some (.cells 41 (opC (o.s1 (o.col.take 14)) v)))).put H.next (some (.cells 41 (opC ((o.s1 (o.col.take 14)).s2 (o.name.take 14)) v))) = G2 at *
  obtain ⟨o2, ho2⟩ : ∃ o2, o2 = (o.s1 (o.col.take 14)).s2 (o.name.take 14) := ⟨_, rfl⟩
  have ev : o2.vec = o.vec := by rw [ho2]; rfl
  rw [← ho2] at g3
  have hv2 : VecF G2 b v o2.vec := by rw [ev]; exact hv.mono x2
  have ln : ∀ G : AH, w_len PP 27 G v = some (.val (.int .i64 (o2.vec.length : Int)) G) := hv2.is.len vec_sl
  obtain ⟨k, hk⟩ : ∃ k : Nat, min (o2.vec.length : Int) 9 = k := ⟨min o2.vec.length 9, by omega⟩
  obtain ⟨v', c1, c2⟩ := hv2.is.cut k (by omega)
  rw [w_fieldAddr_ptr, outP_val, Nat.zero_add, w_load_c, g3, op_f7 _ _ f2, vO_some, outP_val, w_fieldAddr_ptr, outP_val, Nat.zero_add, w_load_c, g3, op_f7 _ _ f2, vO_some, outP_val, ln, outP_val, w_min2_int, outP_val, hk, c1, outP_val, w_fieldAddr_ptr, outP_val, Nat.zero_add, w_load_c, g3, op_f8, vO_some, outP_val, w_fieldAddr_ptr, outP_val, outP_enter]
  refine law1Text_wp o2.pay 45 _ ?_
  rw [w_load_c, g3, op_f7 _ _ f2, vO_some, reC_val, beq_slk hv.slk, ckP_true, ckP_true, ln, reC_val, beq_intK, ckP_true, Nat.zero_add]
  obtain ⟨p1, p2, p3⟩ := slk_factsK (Sl.slk c2)
  rw [w_store_c, g3, op_s7 _ _ _ _ _ (o2.vec.take k) p1, outP_skip, w_fieldAddr_ptr, outP_val, Nat.zero_add, w_store_c, get_put_same, op_s8, outP_skip, w_load_n, get_put_same, ld11 _ (op_len _ _) (op_known _ p3), vO_some, outP_val, w_store_c, get_put_ne _ (by omega), get_put_ne _ (by omega), g4, st11 _ _ (op_len _ _) (op_len _ _) (op_one _ p1), outP_skip, end11 (get_put_same _ _) (op_len _ _) (op_known _ p3)]
  have x5 : Ext [] H (((G2.put H.next (some (.cells 41 (opC (o2.s7 (o2.vec.take k)) v')))).put H.next (some (.cells 41 (opC ((o2.s7 (o2.vec.take k)).s8 (o2.pay.take 45)) v')))).put (H.next + 1) (some (.cells 41 (opC ((o2.s7 (o2.vec.take k)).s8 (o2.pay.take 45)) v')))) := ((x2.put (.inl (Nat.le_refl _)) _).put (.inl (Nat.le_refl _)) _).put (.inl (by omega)) _
  refine hK _ ((o2.s7 (o2.vec.take k)).s8 (o2.pay.take 45)) v' x5 ⟨?_, ?_⟩ ?_ ?_
  · -- the vector lies where it did
    have cH : ∃ v'', (∀ G : AH, w_slice (.sl 1) true false G v none (some (.int .i64 k)) none = some (.val v'' G)) ∧ Is .i32 H b v'' (o.vec.take k) := hv.is.cut k (by rw [ev] at hk; omega)
    obtain ⟨v'', e1, e2⟩ := cH
    have : v'' = v' := by
      have q1 := e1 H
      have q2 := c1 H
      rw [q1] at q2
      cases q2; rfl
    rw [this] at e2
    show Is .i32 _ b v' (o2.vec.take k)
    rw [ev]
    exact Sl.mono e2 x5 (by simp)
  · show (o2.vec.take k).length ≤ _
    rw [List.length_take]; omega
  · show (o2.vec.take k).length ≤ 9
    rw [List.length_take]; omega
  · show (o2.pay.take 45).length ≤ 45
    rw [List.length_take]; omega

/-! Operations that the laws make. -/
def oMk : OpV := ⟨1, [97], [], 0, 2, 1, 1, [], [], 0, 0⟩
theorem oMk_ok : MkA oMk := ⟨rfl, rfl, rfl, rfl, rfl⟩
theorem mk_build : w_build PP 41 H [(0, .int .i64 1), (1, .str [97]), (4, .int .i64 2), (5, .int .i64 1), (6, .int .i64 1)] = some (.val (opA oMk (.slice none 0 0 true)) H) := by kernel_rfl
theorem lawMk_wp (K : AV → AH → Prop) (hK : ∀ H', Ext [] H H' → K (opA oMk (.slice none 0 0 true)) H') : CQ.call 10 [.str [97], .int .i64 1] H K := by
  refine m_fieldfarelaw23_create_ok _ _ _ _ ?_
  unfold m_fieldfarelaw23_create
  rw [op_alloc, outP_val, mk_build, outP_val, w_store_c, get_new_same, st11 _ _ (op_len _ _) (op_len _ _) (op_one _ rfl), outP_skip, end11 (get_put_same _ _) (op_len _ _) (op_known _ rfl)]
  exact hK _ (((Ext.refl _ _).new _).put (.inl (Nat.le_refl _)) _)
def oPut (i : Int) (V : List Int) (d : Int) : OpV := ⟨3, [97], [], i, 0, 0, 0, V, [], 0, d⟩
theorem put_build {v : AV} (hv : SlK v) (i d : Int) (V : List Int) : w_build PP 41 H [(0, .int .i64 3), (1, .str [97]), (3, .int .i64 i), (7, v), (10, .int .u32 d)] = some (.val (opA (oPut i V d) v) H) := by
  rcases hv with rfl | ⟨_, _, rfl⟩ | ⟨_, _, _, _, _, rfl⟩ <;> kernel_rfl
/-! One. -/
def clampF (V : List Int) (i : Nat) : Int := if i < V.length then max (-1048576) (min (V.getD i 0) 1048576) else 0
def vecL (V : List Int) (d : Nat) : List Int := (List.range d).map (clampF V)
theorem vecL_len (V : List Int) (d : Nat) : (vecL V d).length = d := by simp [vecL]
theorem clampF_in (V : List Int) (i : Nat) : -1048576 ≤ clampF V i ∧ clampF V i ≤ 1048576 := by unfold clampF; split <;> omega
theorem vecL_in (V : List Int) (d : Nat) : ∀ x ∈ vecL V d, -1048576 ≤ x ∧ x ≤ 1048576 := by
  intro x hx
  obtain ⟨i, _, rfl⟩ := List.mem_map.1 hx
  exact clampF_in V i
theorem getD_at {L : List Int} {i : Nat} (h : i < L.length) : L.getD i 0 = L[i] := by rw [List.getD_eq_getElem?_getD, List.getElem?_eq_getElem h]; rfl
theorem vec_wp {b : Nat} {s : AV} {V : List Int} (h : Is .i32 H b s V) (d : Nat) (hd : d ≤ 8) (K : AV → AH → Prop)
    (hK : ∀ H' s' B, Ext [] H H' → H.next ≤ B → Os 21 .i32 H' B s' (vecL V d) → K s' H') : CQ.call 40 [s, .int .i64 d] H K := by
  refine m_fieldfarelaw7_Vec_ok _ _ _ _ ?_
  unfold m_fieldfarelaw7_Vec m_fieldfarelaw7_Vect
  obtain ⟨G, q1, x1, n1, o1⟩ := make_nums (H := H) i32_el i32_by (by omega) (n := d) (by omega)
  rw [q1, outP_val]
  generalize (AV.slice (some (H.next, 0)) d d true) = c at *
  unfold m_fieldfarelaw7_Vectth m_fieldfarelaw7_Vectthtb
  refine loopP_rule (I := fun t G' => ∃ j : Nat, t = (s, .int .i64 d, c, .int .i64 j) ∧ j ≤ d ∧ j ≤ V.length ∧ Ext [H.next] G G' ∧ Os 21 .i32 G' H.next c (fillTo (clampF V) d j)) (μ := fun t _ => match t.2.2.2 with | .int _ z => d - z.toNat | _ => 0) ?_ ⟨0, rfl, Nat.zero_le _, Nat.zero_le _, Ext.refl _ _, by rw [fillTo_zero]; exact o1⟩
  rintro t G' ⟨j, rfl, hj, hjV, x2, o2⟩ rec hrec
  have lv := h.len vec_sl
  unfold m_fieldfarelaw7_Vectthtbl
  have fin : (∀ i, j ≤ i → i < d → clampF V i = 0) → K c G' := by
    intro q
    have e : fillTo (clampF V) d j = vecL V d := by
      unfold fillTo vecL
      refine List.map_congr_left fun i hi => ?_
      by_cases r : i < j
      · rw [if_pos r]
      · rw [if_neg r, q i (by omega) (List.mem_range.1 hi)]
    rw [e] at o2
    refine hK _ _ H.next ((x1.mono (by simp)).trans x2 |>.mono fun b hb hlt => ?_) (Nat.le_refl _) o2
    simp at hb; omega
  rw [w_lss, outP_val, boolIs_bool, beq_tt]
  by_cases c1 : j < d
  · rw [decide_eq_true (by omega), guardP_true, outP_val, guardP_true, outP_val, guardP_true, lv, outP_val, guardP_true, w_lss, outP_val, w_pick_b, outP_val, if_pos rfl]
    by_cases c2 : j < V.length
    · have h2 : Is .i32 G' b s V := Sl.mono' (Sl.mono h x1 (by simp)) x2 (fun q => by
        rcases Sl.low h with r | r
        · simp at q; omega
        · exact r)
      obtain ⟨o, a1, a2, a3⟩ := h2.at c2
      obtain ⟨p, b1, b2, b3, b4⟩ := o2.at (j := j) (by rw [fillTo_len]; exact c1)
      obtain ⟨G4, z1, z2, z3, o4⟩ := b4 (clampF V j)
      rw [fillTo_set] at o4
      have e : max (-1048576) (min V[j] 1048576) = clampF V j := by unfold clampF; rw [if_pos c2, getD_at c2]
      rw [decide_eq_true (by omega), condP_true, a1, outP_val, w_load_c, a3, vO_some, outP_val, w_min2_int, outP_val, w_max2_int, outP_val, e, b1, outP_val, w_store_c, z1, outP_skip, w_add_in (by omega) (by omega), outP_val]
      refine hrec _ _ ⟨j + 1, by rfl, by omega, by omega, x2.trans z2, o4⟩ ?_
      show d - ((j : Int) + 1).toNat < d - (j : Int).toNat
      omega
    · rw [decide_eq_false (by omega), condP_false]
      exact fin fun i hi _ => by unfold clampF; rw [if_neg (by omega)]
  · rw [decide_eq_false (by omega), guardP_false, guardP_false, guardP_false, guardP_false, w_pick_b, outP_val, if_neg (by simp), condP_false]
    exact fin fun i hi hid => absurd hid (by omega)
theorem lawPut_wp {b : Nat} {s : AV} {V : List Int} (h : Is .i32 H b s V) (i : Int) (hi : 0 ≤ i ∧ i ≤ 1000) (K : AV → AH → Prop) (hK : ∀ H' v B d, Ext [] H H' → H.next ≤ B → Os 21 .i32 H' B v (vecL V 2) → K (opA (oPut i (vecL V 2) d) v) H') : CQ.call 11 [.str [97], .int .i64 i, s] H K := by
  refine m_fieldfarelaw23_put_ok _ _ _ _ _ ?_
  unfold m_fieldfarelaw23_put
  rw [op_alloc, outP_val, outP_enter]
  have x1 : Ext [] H (H.new (.cells 41 (opC OpV.zero (.slice none 0 0 true)))) := (Ext.refl _ _).new _
  have g1 := get_new_same H (.cells 41 (opC OpV.zero (.slice none 0 0 true)))
  have n1 : (H.new (.cells 41 (opC OpV.zero (.slice none 0 0 true)))).next = H.next + 1 := rfl
  generalize H.new (.cells 41 (opC OpV.zero (.slice none 0 0 true))) = G at *
  refine vec_wp (Sl.mono h x1 (by simp)) 2 (by omega) _ fun G2 v B x2 hB os => ?_
  obtain ⟨p1, p2, _, p3⟩ := Own.facts os
  rw [w_mul_in (by omega) (by omega), outP_val, w_cint, outP_val, put_build (Sl.slk (Own.sl os)) i _ (vecL V 2), outP_val, w_store_c, x2.get (by omega) (by simp) g1, st11 _ _ (op_len _ _) (op_len _ _) (op_one _ p1), outP_skip, end11 (get_put_same _ _) (op_len _ _) (op_known _ p3)]
  refine hK _ v B _ ((x1.trans x2).put (.inl (Nat.le_refl _)) _) (by omega) ?_
  exact Own.mono os ((Ext.refl [H.next] G2).put (b := H.next) (.inr (by simp)) _) (by simp; omega)
end
end Go.Ab
/- fieldfarelaw23.CoreOrder: what it does, at any input. -/
namespace Go.Ab
noncomputable section
open Go.Proofs
set_option maxRecDepth 10000
variable {H H' : AH}

theorem putE_put (i : Int) (hi : 1 ≤ i ∧ i ≤ 1000) (V : List Int) (d : Int) : putE (oPut i (vecL V 2) d) = 0 := by
  have hm : mayB (vecL V 2) 2 = true := (mayB_iff _ _).2 ⟨by omega, by omega, by rw [vecL_len]; rfl, vecL_in V 2⟩
  show (if ¬ ([97] : List UInt8) = [97] then (3 : Int) else if i < 1 ∨ 1000 < i then 2 else if mayB (vecL V 2) 2 = false then 1 else if 40 < ([] : List UInt8).length then 11 else 0) = 0
  rw [if_neg (by simp), if_neg (by omega), if_neg (by rw [hm]; decide), if_neg (by simp)]
theorem rep_alloc : w_alloc 34 [(.int .i64 0), (.slice none 0 0 true), (.str []), (.int .i64 0), (.bool false), (.slice none 0 0 true), (.int .i64 0), (.int .i64 0), (.bool false), (.str []), (.int .i64 0), (.int .i64 0), (.int .i64 0), (.int .i64 0), (.int .i64 0), (.int .i64 0), (.int .i64 0), (.int .i64 0), (.int .i64 0), (.int .i64 0)] H none = some (.val (.ptr (some (H.next, 0))) (H.new (.cells 34 (repC 0)))) := w_alloc_none _ _
set_option maxHeartbeats 1000000 in
theorem filled_wp {b : Nat} {s : AV} {Y : List Vq} (hs : Sl H 1 b s (vrow Y)) (hy : ∀ y ∈ Y, VEl H y) (_hY : Y.length ≤ 9223372036854775807) (K : AV → AH → Prop)
    (hK : ∀ H' c mc ma x st ms ix f mf seq L, Ext [] H H' → C1 H' c mc ma x st ms ix f mf seq L → L.length ≤ 40 → K (.ptr (some (c, 0))) H') : CQ.call 8 [.int .i64 1, s] H K := by
  refine m_fieldfarelaw23_filled_ok _ _ _ _ ?_
  unfold m_fieldfarelaw23_filled m_fieldfarelaw23_filledt
  have ex0 : ∀ (G : AH) (a b : AV), w_extract 0 G (.tup [a, b]) = some (.val a G) := fun _ _ _ => rfl
  have ex1 : ∀ (G : AH) (a b : AV), w_extract 1 G (.tup [a, b]) = some (.val b G) := fun _ _ _ => rfl
  rw [outP_enter]
  refine newCore_wp _ fun G x1 h0 n1 => ?_
  unfold m_fieldfarelaw23_filledtt
  rw [outP_enter]
  refine lawMk_wp _ fun G2 x2 => ?_
  rw [outP_enter]
  have n2 := x2.next
  refine doMk_wp (b := 0) (h0.mono0 x2) oMk oMk_ok (vecF_nil _ 0) (by omega) _ fun G3 x st ms ix f mf x3 bs bf h3 => ?_
  rw [ex0, outP_val, ex1, outP_val, rep_alloc, outP_val, w_store_c, get_new_same, stG (n := 20) _ _ rfl rfl (by decide) rfl, outP_skip, err_nilN, outP_val, condP_false]
  have x4 : Ext [] G3 ((G3.new (.cells 34 (repC 0))).put G3.next (some (.cells 34 (repC 0)))) := ((Ext.refl _ _).new _).put (.inl (Nat.le_refl _)) _
  have h4 := h3.mono0 x4
  have y3 : Ext [] H G3 := (((x1.trans x2).mono (m' := [H.next + 2, H.next]) (by simp)).trans x3).mono fun b hb hlt => by simp at hb; omega
  have y4 := y3.trans x4
  generalize (G3.new (.cells 34 (repC 0))).put G3.next (some (.cells 34 (repC 0))) = G4 at *
  unfold m_fieldfarelaw23_filledttth m_fieldfarelaw23_filledttthtb
  refine loopP_rule (I := fun t G' => ∃ (j : Nat) (L : Ls), t = (s, .ptr (some (H.next + 2, 0)), .int .i64 j) ∧ j ≤ Y.length ∧ j ≤ 40 ∧ Ext [] H G' ∧ C1 G' (H.next + 2) H.next (H.next + 1) x st ms ix f mf ((j : Int) + 1) L ∧ L.length ≤ j ∧ ∀ p ∈ L, p.1.seq ≤ (j : Int) + 1)
    (μ := fun t _ => match t.2.2 with | .int _ z => 40 - z.toNat | _ => 0) ?_ ⟨0, [], rfl, Nat.zero_le _, by omega, y4, by rw [show (((0 : Nat) : Int) + 1) = 1 from rfl]; exact h4, by simp, by simp⟩
  rintro t G' ⟨j, L, rfl, hj, hj40, y, hC, hL, hq⟩ rec hrec
  unfold m_fieldfarelaw23_filledttthtbl
  have lY := vrow_len (Sl.mono hs y (by simp))
  by_cases c1 : j < Y.length
  case neg =>
    have d := decide_eq_false (show ¬ (j : Int) < (Y.length : Int) by omega)
    repeat (first | rw [outP_val] | rw [guardP_false] | rw [lY] | rw [d] | rw [condP_false] | rw [boolIs_bool] | rw [beq_tt] | rw [w_pick_b] | rw [if_neg Bool.false_ne_true] | rw [w_lss])
    exact hK _ _ _ _ _ _ _ _ _ _ _ L y hC (by omega)
  have d1 := decide_eq_true (show (j : Int) < (Y.length : Int) by omega)
  by_cases c2 : j < 40
  case neg =>
    have d := decide_eq_false (show ¬ (j : Int) < 40 by omega)
    repeat (first | rw [outP_val] | rw [guardP_true] | rw [lY] | rw [d1] | rw [d] | rw [condP_false] | rw [boolIs_bool] | rw [beq_tt] | rw [w_pick_b] | rw [if_pos rfl] | rw [w_lss])
    exact hK _ _ _ _ _ _ _ _ _ _ _ L y hC (by omega)
  have d2 := decide_eq_true (show (j : Int) < 40 by omega)
  obtain ⟨q, a1, _, a3⟩ := vrow_at (Sl.mono hs y (by simp)) c1
  have hv := (hy _ (List.getElem_mem c1)).mono0 y
  repeat (first | rw [outP_val] | rw [guardP_true] | rw [condP_true] | rw [lY] | rw [d1] | rw [d2] | rw [a1] | rw [a3] | rw [boolIs_bool] | rw [beq_tt] | rw [w_pick_b] | rw [if_pos rfl] | rw [w_load_c] | rw [vO_some] | rw [w_lss] | rw [w_add_in (by omega) (by omega)])
  rw [outP_enter]
  refine lawPut_wp hv.is _ (by omega) _ fun G5 v B dd x5 hB os => ?_
  have hC5 := hC.mono0 x5
  have n5 := x5.next
  have b1 := hC.cl
  have b2 := hC.st.mlt
  have b3 := hC.ix.ml
  rw [outP_enter]
  refine doPut_wp hC5 hL (by omega) hq (by omega) (oPut ((j : Int) + 1) (vecL Y[j].2.2 2) dd) rfl (putE_put _ (by omega) _ _) ⟨Own.sl os, by show (vecL Y[j].2.2 2).length ≤ _; rw [vecL_len]; omega⟩ ⟨by omega, by omega, by omega⟩ _ fun G6 L' x6 hC6 hL' hq' => ?_
  rw [ex0, outP_val, ex1, outP_val, rep_alloc, outP_val, w_store_c, get_new_same, stG (n := 20) _ _ rfl rfl (by decide) rfl, outP_skip, err_nilN, outP_val, condP_false, w_add_in (by omega) (by omega), outP_val]
  have x7 : Ext [] G6 ((G6.new (.cells 34 (repC 0))).put G6.next (some (.cells 34 (repC 0)))) := ((Ext.refl _ _).new _).put (.inl (Nat.le_refl _)) _
  have y6 : Ext [] H G6 := (((y.trans x5).mono (m' := [H.next + 2, ms, mf]) (by simp)).trans x6).mono fun b hb hlt => by simp at hb; omega
  refine hrec _ _ ⟨j + 1, L', by rfl, by omega, by omega, y6.trans x7, hC6.mono0 x7, hL', hq'⟩ ?_
  show 40 - ((j : Int) + 1).toNat < 40 - (j : Int).toNat
  omega
theorem errIn (o : OpV) (h : putE o ≠ 0) : putE o ∈ codesN := by
  unfold putE at h ⊢
  split
  · simp
  · split
    · simp
    · split
      · simp
      · split
        · simp
        · rename_i a b c d
          rw [if_neg a, if_neg b, if_neg c, if_neg d] at h
          exact absurd rfl h
theorem mk4_build (a : List UInt8) (d m i : Int) : w_build PP 41 H [(0, .int .i64 1), (1, .str a), (4, .int .i64 d), (5, .int .i64 m), (6, .int .i64 i)] = some (.val (opA ⟨1, a, [], 0, d, m, i, [], [], 0, 0⟩ (.slice none 0 0 true)) H) := by kernel_rfl
/-- What one asks: a put at the core. -/
theorem ask_wp {c mc ma x st ms ix f mf : Nat} {seq : Int} {L : Ls} (h : C1 H c mc ma x st ms ix f mf seq L) (hL : L.length ≤ 40) (hl : Laid2 H) (hlt : 1 < H.next) {b : Nat} {v : AV} (o : OpV) (hk : o.kind = 3) (hv : VecF H b v o.vec) (hV : o.vec.length ≤ 9) (hp : o.pay.length ≤ 45) (K : AV → AH → Prop) (hK : ∀ H', Ext [] H H' → K (.int .i64 (putE o)) H') :
    outP CQ H (some (.enter 17 [.ptr (some (c, 0)), opA o v])) fun v1 H1 => outP CQ H1 (some (.enter 12 [v1])) K := by
  rw [outP_enter]
  refine canPut_wp h (by have := live_le L; omega) o hk hv (by omega) (by omega) _ (fun e G x1 => ?_) fun e G er x1 he => ?_
  · rw [outP_enter]
    refine okCode_wp (by kernel_rfl) _ ?_
    rw [e] at hK
    exact hK _ x1
  · rw [outP_enter]
    exact errCode_wp (by kernel_rfl) he (errIn o e) (hl.mono hlt (by simp) x1) _ (hK _ x1)
theorem ask2_wp {c mc ma x st ms ix f mf : Nat} {seq : Int} {L : Ls} (h : C1 H c mc ma x st ms ix f mf seq L) (hl : Laid2 H) (hlt : 1 < H.next) (a : List UInt8) (d m i n : Int) (ha : a.length ≤ 100) (hn : createE ⟨1, a, [], 0, d, m, i, [], [], 0, 0⟩ = n) (h0 : n ≠ 0) (hc : n ∈ codesN) (K : AV → AH → Prop) (hK : ∀ H', Ext [] H H' → K (.int .i64 n) H') :
    outP CQ H (some (.enter 17 [.ptr (some (c, 0)), opA ⟨1, a, [], 0, d, m, i, [], [], 0, 0⟩ (.slice none 0 0 true)])) fun v1 H1 => outP CQ H1 (some (.enter 12 [v1])) K := by
  rw [outP_enter]
  refine canCreate_wp h ⟨1, a, [], 0, d, m, i, [], [], 0, 0⟩ rfl (vecF_nil _ 0) (by show a.length ≤ _; omega) (by rw [hn]; exact h0) _ fun G er x1 he => ?_
  rw [hn] at he
  rw [outP_enter]
  exact errCode_wp (by kernel_rfl) he hc (hl.mono hlt (by simp) x1) _ (hK _ x1)
/-! An operation's block is none of the core's. -/
theorem is_op {b : Nat} {v w : AV} {V : List Int} {t : TypeId} {o : OpV} (h : Is .i32 H b v V) (g : H.get b = some (.cells t (opC o w))) (hw : SlK w) : V = [] := by
  cases V with
  | nil => rfl
  | cons a V =>
    obtain ⟨q, _, _, a3⟩ := h.at (j := 0) (by simp)
    rw [g, ldV_cells] at a3
    obtain ⟨_, c2, _⟩ := slk_factsK hw
    match q with
    | 0 => cases a3
    | 1 => cases a3
    | 2 => cases a3
    | 3 => cases a3
    | 4 => cases a3
    | 5 => cases a3
    | 6 => cases a3
    | 7 =>
      have a3 : clearA w = some (.int .i32 a) := a3
      rw [c2] at a3
      rcases hw with rfl | ⟨_, _, rfl⟩ | ⟨_, _, _, _, _, rfl⟩ <;> cases a3
    | 8 => cases a3
    | 9 => cases a3
    | 10 => cases a3
    | n + 11 => cases a3
theorem C1.monoOp {c mc ma x s ms ix f mf : Nat} {seq : Int} {L : Ls} (h : C1 H c mc ma x s ms ix f mf seq L) {n0 : Nat} {o : OpV} {w : AV} (g : H.get n0 = some (.cells 41 (opC o w))) (hw : SlK w) (e : Ext [n0] H H') : C1 H' c mc ma x s ms ix f mf seq L := by
  obtain ⟨clk1, b0, q1, q2⟩ := h.hmc
  obtain ⟨clk2, q3⟩ := h.hma
  obtain ⟨clk3, q4, q5⟩ := h.st.hm
  obtain ⟨M, clk4, q6⟩ := h.ix.hm
  have hc := h.hc
  have hx := h.hx
  have hs := h.st.hs
  have hi := h.ix.hx
  have hf := h.ix.hf
  have e1 : c ≠ n0 := fun q => by subst q; rw [hc] at g; cases g
  have e2 : mc ≠ n0 := fun q => by subst q; rw [q1] at g; cases g
  have e3 : ma ≠ n0 := fun q => by subst q; rw [q3] at g; cases g
  have e4 : x ≠ n0 := fun q => by subst q; rw [hx] at g; cases g
  have e5 : s ≠ n0 := fun q => by subst q; rw [hs] at g; cases g
  have e6 : ms ≠ n0 := fun q => by subst q; rw [q4] at g; cases g
  have e7 : ix ≠ n0 := fun q => by subst q; rw [hi] at g; cases g
  have e8 : f ≠ n0 := fun q => by subst q; rw [hf] at g; cases g
  have e9 : mf ≠ n0 := fun q => by subst q; rw [q6] at g; cases g
  have n := e.next
  have := h.cl
  have := h.mcl
  have := h.mal
  have := h.xl
  have := h.st.slt
  have := h.st.mlt
  refine ⟨e.get h.cl (by simpa using e1) hc, ⟨clk1, b0, e.get h.mcl (by simpa using e2) q1, q2⟩, ⟨clk2, e.get h.mal (by simpa using e3) q3⟩, e.get h.xl (by simpa using e4) hx,
    ⟨e.get h.st.slt (by simpa using e5) hs, ⟨clk3, e.get h.st.mlt (by simpa using e6) q4, q5⟩, by omega, by omega, h.st.nd, h.st.ids, fun p hp => ?_, h.st.len⟩, h.ix.mono e (by simpa using e7) (by simpa using e8) (by simpa using e9), by omega, by omega, by omega, by omega, h.n1, h.n2, h.n3, h.n4, h.n5⟩
  obtain ⟨⟨v1, v2⟩, v3⟩ := h.st.vs p hp
  exact ⟨⟨Sl.mono' v1 e fun q => by
    have q : p.1.b = n0 := by simpa using q
    rw [← q] at g
    show nums .i32 p.1.V = []
    rw [is_op v1 g hw]; rfl, v2⟩, v3⟩
set_option maxHeartbeats 4000000 in
theorem coreOrder_wp {b bs : Nat} {v s : AV} (o : OpV) {Y : List Vq} (hv : VecF H b v o.vec) (hs : Sl H 1 bs s (vrow Y)) (hy : ∀ y ∈ Y, VEl H y) (hY : Y.length ≤ 9223372036854775807) (hl : Laid2 H) (hlt : 1 < H.next) (K : AV → AH → Prop) (hK : ∀ H', Ext [] H H' → K (.bool true) H') :
    CQ.call 5 [opA o v, s] H K := by
  refine m_fieldfarelaw23_CoreOrder_ok _ _ _ _ ?_
  unfold m_fieldfarelaw23_CoreOrder
  obtain ⟨f1, f2, f3⟩ := slk_factsK hv.slk
  rw [op_box' o f1, outP_val]
  have x1 : Ext [] H (H.new (.cells 41 (opC o v))) := (Ext.refl _ _).new _
  have g1 := get_new_same H (.cells 41 (opC o v))
  have n1 : (H.new (.cells 41 (opC o v))).next = H.next + 1 := rfl
  generalize H.new (.cells 41 (opC o v)) = G at *
  unfold m_fieldfarelaw23_CoreOrdert
  rw [outP_enter]
  refine begunK_wp (hl.mono hlt (by simp) x1) _ ?_
  unfold m_fieldfarelaw23_CoreOrdertt
  rw [w_not, outP_val, Bool.not_true, condP_false]
  unfold m_fieldfarelaw23_CoreOrderttt
  rw [outP_enter]
  refine filled_wp (Sl.mono hs x1 (by simp)) (fun y q => (hy y q).mono0 x1) hY _ fun G2 c mc ma x st ms ix f mf seq L x2 hC hL => ?_
  unfold m_fieldfarelaw23_CoreOrdertttt
  rw [eq_cor, outP_val, condP_false]
  unfold m_fieldfarelaw23_CoreOrderttttt
  have n2 := x2.next
  have g2 : G2.get H.next = _ := x2.get (by omega) (by simp) g1
  rw [w_load_n, g2, ld11 _ (op_len _ _) (op_known _ f3), vO_some, outP_val, outP_enter]
  refine fit_wp o (hv.mono (x1.trans x2)) _ fun G3 o' v' x3 hv' hV' hp' => ?_
  have n3 := x3.next
  have g3 : G3.get H.next = _ := x3.get (by omega) (by simp) g2
  have hC3 := hC.mono0 x3
  obtain ⟨p1, p2, p3⟩ := slk_factsK hv'.slk
  rw [w_store_c, g3, st11 _ _ (op_len _ _) (op_len _ _) (op_one _ p1), outP_skip]
  unfold m_fieldfarelaw23_CoreOrdertttttt
  rw [w_fieldAddr_ptr, outP_val, Nat.zero_add, w_store_c, get_put_same, op_s0, outP_skip, w_fieldAddr_ptr, outP_val, Nat.zero_add, w_store_c, get_put_same, op_s1, outP_skip]
  obtain ⟨o3, ho3⟩ : ∃ o3, o3 = (o'.s0 3).s1 [97] := ⟨_, rfl⟩
  rw [← ho3]
  have k3 : o3.kind = 3 := by rw [ho3]; rfl
  have c3 : o3.col = [97] := by rw [ho3]; rfl
  have v3 : o3.vec = o'.vec := by rw [ho3]; rfl
  have q3 : o3.pay = o'.pay := by rw [ho3]; rfl
  have e4 : Ext [H.next] G3 (((G3.put H.next (some (.cells 41 (opC o' v')))).put H.next (some (.cells 41 (opC (o'.s0 3) v')))).put H.next (some (.cells 41 (opC o3 v')))) := (((Ext.refl _ _).put (.inr (by simp)) _).put (.inr (by simp)) _).put (.inr (by simp)) _
  have y4 : Ext [] H (((G3.put H.next (some (.cells 41 (opC o' v')))).put H.next (some (.cells 41 (opC (o'.s0 3) v')))).put H.next (some (.cells 41 (opC o3 v')))) := ((((x1.trans x2).trans x3).put (.inl (Nat.le_refl _)) _).put (.inl (Nat.le_refl _)) _).put (.inl (Nat.le_refl _)) _
  have g4 := get_put_same (H := (G3.put H.next (some (.cells 41 (opC o' v')))).put H.next (some (.cells 41 (opC (o'.s0 3) v')))) H.next (some (.cells 41 (opC o3 v')))
  have hC4 := hC3.monoOp g3 hv.slk e4
  have hv4 : VecF (((G3.put H.next (some (.cells 41 (opC o' v')))).put H.next (some (.cells 41 (opC (o'.s0 3) v')))).put H.next (some (.cells 41 (opC o3 v')))) b v' o3.vec := by
    rw [v3]
    exact ⟨Sl.mono' hv'.is e4 fun q => by
      have q : b = H.next := by simpa using q
      rw [← q] at g3
      show nums .i32 o'.vec = []
      rw [is_op hv'.is g3 hv.slk]; rfl, hv'.len⟩
  have n4 := e4.next
  generalize ((G3.put H.next (some (.cells 41 (opC o' v')))).put H.next (some (.cells 41 (opC (o'.s0 3) v')))).put H.next (some (.cells 41 (opC o3 v'))) = G4 at *
  have l11 := ld11 41 (op_len o3 v') (op_known o3 p3)
  -- what is asked, and asked
  have fin : ∀ w : Int, w = putE o3 → m_fieldfarelaw23_CoreOrderttttttttt K (.ptr (some (H.next, 0))) (.ptr (some (c, 0))) (.int .i64 w) G4 := by
    intro w hw
    unfold m_fieldfarelaw23_CoreOrderttttttttt
    rw [w_load_n, g4, l11, vO_some, outP_val]
    refine ask_wp hC4 hL (hl.mono hlt (by simp) y4) (by omega) o3 k3 hv4 (by rw [v3]; exact hV') (by rw [q3]; exact hp') _ fun G5 x5 => ?_
    have n5 := x5.next
    have g5 : G5.get H.next = _ := x5.get (by omega) (by simp) g4
    have hC5 := hC4.mono0 x5
    rw [w_neq, outP_val, show (!decide (putE o3 = w)) = false by rw [decide_eq_true hw.symm]; rfl, condP_false, w_fieldAddr_ptr, outP_val, Nat.zero_add, w_store_c, g5, op_s1, outP_skip]
    have e6 : Ext [H.next] G5 (G5.put H.next (some (.cells 41 (opC (o3.s1 [110, 111, 98, 111, 100, 121]) v')))) := (Ext.refl _ _).put (.inr (by simp)) _
    have y6 : Ext [] H (G5.put H.next (some (.cells 41 (opC (o3.s1 [110, 111, 98, 111, 100, 121]) v')))) := (y4.trans x5).put (.inl (Nat.le_refl _)) _
    have g6 := get_put_same (H := G5) H.next (some (.cells 41 (opC (o3.s1 [110, 111, 98, 111, 100, 121]) v')))
    have hC6 := hC5.monoOp g5 hv4.slk e6
    have hv6 : VecF (G5.put H.next (some (.cells 41 (opC (o3.s1 [110, 111, 98, 111, 100, 121]) v')))) b v' (o3.s1 [110, 111, 98, 111, 100, 121]).vec := ⟨Sl.mono' (hv4.mono x5).is e6 fun q => by
      have q : b = H.next := by simpa using q
      rw [← q] at g5
      show nums .i32 o3.vec = []
      rw [is_op (hv4.mono x5).is g5 hv4.slk]; rfl, hv4.len⟩
    have n6 := e6.next
    generalize G5.put H.next (some (.cells 41 (opC (o3.s1 [110, 111, 98, 111, 100, 121]) v'))) = G6 at *
    have p6 : putE (o3.s1 [110, 111, 98, 111, 100, 121]) = 3 := by
      unfold putE
      rw [if_pos (by show ¬ ([110, 111, 98, 111, 100, 121] : List UInt8) = [97]; decide)]
    rw [w_load_n, g6, ld11 _ (op_len _ _) (op_known _ p3), vO_some, outP_val]
    refine ask_wp hC6 hL (hl.mono hlt (by simp) y6) (by omega) _ (by show o3.kind = 3; exact k3) hv6 (by show o3.vec.length ≤ 9; rw [v3]; exact hV') (by show o3.pay.length ≤ 45; rw [q3]; exact hp') _ fun G7 x7 => ?_
    have hC7 := hC6.mono0 x7
    have y7 := y6.trans x7
    rw [p6, w_neq, outP_val, show (!decide ((3 : Int) = 3)) = false from rfl, condP_false]
    -- four more
    rw [mk4_build, outP_val, op_alloc, outP_val, w_store_c, get_new_same, st11 _ _ (op_len _ _) (op_len _ _) (op_one _ rfl), outP_skip]
    have x8 : Ext [] G7 ((G7.new (.cells 41 (opC OpV.zero (.slice none 0 0 true)))).put G7.next (some (.cells 41 (opC ⟨1, [97], [], 0, 99, 9, 9, [], [], 0, 0⟩ (.slice none 0 0 true))))) := ((Ext.refl _ _).new _).put (.inl (Nat.le_refl _)) _
    have g8 := get_put_same (H := G7.new (.cells 41 (opC OpV.zero (.slice none 0 0 true)))) G7.next (some (.cells 41 (opC ⟨1, [97], [], 0, 99, 9, 9, [], [], 0, 0⟩ (.slice none 0 0 true))))
    have n8 : ((G7.new (.cells 41 (opC OpV.zero (.slice none 0 0 true)))).put G7.next (some (.cells 41 (opC ⟨1, [97], [], 0, 99, 9, 9, [], [], 0, 0⟩ (.slice none 0 0 true))))).next = G7.next + 1 := by rw [AH.next_put]; rfl
    generalize (G7.new (.cells 41 (opC OpV.zero (.slice none 0 0 true)))).put G7.next (some (.cells 41 (opC ⟨1, [97], [], 0, 99, 9, 9, [], [], 0, 0⟩ (.slice none 0 0 true)))) = G8 at *
    rw [mk4_build, outP_val, op_alloc, outP_val, w_store_c, get_new_same, st11 _ _ (op_len _ _) (op_len _ _) (op_one _ rfl), outP_skip]
    have x9 : Ext [] G8 ((G8.new (.cells 41 (opC OpV.zero (.slice none 0 0 true)))).put G8.next (some (.cells 41 (opC ⟨1, [65], [], 0, 99, 9, 9, [], [], 0, 0⟩ (.slice none 0 0 true))))) := ((Ext.refl _ _).new _).put (.inl (Nat.le_refl _)) _
    have g9 := get_put_same (H := G8.new (.cells 41 (opC OpV.zero (.slice none 0 0 true)))) G8.next (some (.cells 41 (opC ⟨1, [65], [], 0, 99, 9, 9, [], [], 0, 0⟩ (.slice none 0 0 true))))
    have n9 : ((G8.new (.cells 41 (opC OpV.zero (.slice none 0 0 true)))).put G8.next (some (.cells 41 (opC ⟨1, [65], [], 0, 99, 9, 9, [], [], 0, 0⟩ (.slice none 0 0 true))))).next = G8.next + 1 := by rw [AH.next_put]; rfl
    generalize (G8.new (.cells 41 (opC OpV.zero (.slice none 0 0 true)))).put G8.next (some (.cells 41 (opC ⟨1, [65], [], 0, 99, 9, 9, [], [], 0, 0⟩ (.slice none 0 0 true)))) = G9 at *
    rw [mk4_build, outP_val, op_alloc, outP_val, w_store_c, get_new_same, st11 _ _ (op_len _ _) (op_len _ _) (op_one _ rfl), outP_skip]
    have x10 : Ext [] G9 ((G9.new (.cells 41 (opC OpV.zero (.slice none 0 0 true)))).put G9.next (some (.cells 41 (opC ⟨1, [98], [], 0, 99, 9, 9, [], [], 0, 0⟩ (.slice none 0 0 true))))) := ((Ext.refl _ _).new _).put (.inl (Nat.le_refl _)) _
    have g10 := get_put_same (H := G9.new (.cells 41 (opC OpV.zero (.slice none 0 0 true)))) G9.next (some (.cells 41 (opC ⟨1, [98], [], 0, 99, 9, 9, [], [], 0, 0⟩ (.slice none 0 0 true))))
    have n10 : ((G9.new (.cells 41 (opC OpV.zero (.slice none 0 0 true)))).put G9.next (some (.cells 41 (opC ⟨1, [98], [], 0, 99, 9, 9, [], [], 0, 0⟩ (.slice none 0 0 true))))).next = G9.next + 1 := by rw [AH.next_put]; rfl
    generalize (G9.new (.cells 41 (opC OpV.zero (.slice none 0 0 true)))).put G9.next (some (.cells 41 (opC ⟨1, [98], [], 0, 99, 9, 9, [], [], 0, 0⟩ (.slice none 0 0 true)))) = G10 at *
    rw [mk4_build, outP_val, op_alloc, outP_val, w_store_c, get_new_same, st11 _ _ (op_len _ _) (op_len _ _) (op_one _ rfl), outP_skip]
    have x11 : Ext [] G10 ((G10.new (.cells 41 (opC OpV.zero (.slice none 0 0 true)))).put G10.next (some (.cells 41 (opC ⟨1, [98], [], 0, 8, 1, 9, [], [], 0, 0⟩ (.slice none 0 0 true))))) := ((Ext.refl _ _).new _).put (.inl (Nat.le_refl _)) _
    have g11 := get_put_same (H := G10.new (.cells 41 (opC OpV.zero (.slice none 0 0 true)))) G10.next (some (.cells 41 (opC ⟨1, [98], [], 0, 8, 1, 9, [], [], 0, 0⟩ (.slice none 0 0 true))))
    have n11 : ((G10.new (.cells 41 (opC OpV.zero (.slice none 0 0 true)))).put G10.next (some (.cells 41 (opC ⟨1, [98], [], 0, 8, 1, 9, [], [], 0, 0⟩ (.slice none 0 0 true))))).next = G10.next + 1 := by rw [AH.next_put]; rfl
    generalize (G10.new (.cells 41 (opC OpV.zero (.slice none 0 0 true)))).put G10.next (some (.cells 41 (opC ⟨1, [98], [], 0, 8, 1, 9, [], [], 0, 0⟩ (.slice none 0 0 true)))) = G11 at *
    have x79 := x8.trans x9
    have x710 := x79.trans x10
    have x711 := x710.trans x11
    have hC11 := hC7.mono0 x711
    have y11 := y7.trans x711
    have g8' : ∀ {G' : AH}, Ext [] G11 G' → G'.get G7.next = some (.cells 41 (opC ⟨1, [97], [], 0, 99, 9, 9, [], [], 0, 0⟩ (.slice none 0 0 true))) := fun e => (((x9.trans x10).trans x11).trans e).get (by omega) (by simp) g8
    have g9' : ∀ {G' : AH}, Ext [] G11 G' → G'.get G8.next = some (.cells 41 (opC ⟨1, [65], [], 0, 99, 9, 9, [], [], 0, 0⟩ (.slice none 0 0 true))) := fun e => ((x10.trans x11).trans e).get (by omega) (by simp) g9
    have g10' : ∀ {G' : AH}, Ext [] G11 G' → G'.get G9.next = some (.cells 41 (opC ⟨1, [98], [], 0, 99, 9, 9, [], [], 0, 0⟩ (.slice none 0 0 true))) := fun e => (x11.trans e).get (by omega) (by simp) g10
    have g11' : ∀ {G' : AH}, Ext [] G11 G' → G'.get G10.next = some (.cells 41 (opC ⟨1, [98], [], 0, 8, 1, 9, [], [], 0, 0⟩ (.slice none 0 0 true))) := fun e => e.get (by omega) (by simp) g11
    have d4 : decide ((4 : Int) = 4) = true := rfl
    have d1 : decide ((1 : Int) = 1) = true := rfl
    have d2 : decide ((2 : Int) = 2) = true := rfl
    have d12 : decide ((12 : Int) = 12) = true := rfl
    rw [w_load_n, g8' (Ext.refl _ _), ld11 _ (op_len _ _) (op_known _ rfl), vO_some, outP_val]
    refine ask2_wp hC11 (hl.mono hlt (by simp) y11) (by have := y11.next; omega) [97] 99 9 9 4 (by decide) rfl (by decide) (by simp) _ fun G12 x12 => ?_
    rw [w_eql, outP_val, d4, boolIs_bool, beq_tt, guardP_true, outP_val, guardP_true, w_load_n, g9' x12, ld11 _ (op_len _ _) (op_known _ rfl), vO_some, outP_val, guardP_true]
    refine ask2_wp (hC11.mono0 x12) (hl.mono hlt (by simp) (y11.trans x12)) (by have := (y11.trans x12).next; omega) [65] 99 9 9 1 (by decide) rfl (by decide) (by simp) _ fun G13 x13 => ?_
    have x1213 := x12.trans x13
    rw [guardP_true, w_eql, outP_val, d1, w_pick_b, outP_val, if_pos rfl, boolIs_bool, beq_tt, guardP_true, outP_val, guardP_true, w_load_n, g10' x1213, ld11 _ (op_len _ _) (op_known _ rfl), vO_some, outP_val, guardP_true]
    refine ask2_wp (hC11.mono0 x1213) (hl.mono hlt (by simp) (y11.trans x1213)) (by have := (y11.trans x1213).next; omega) [98] 99 9 9 2 (by decide) rfl (by decide) (by simp) _ fun G14 x14 => ?_
    have x1214 := x1213.trans x14
    rw [guardP_true, w_eql, outP_val, d2, w_pick_b, outP_val, if_pos rfl, boolIs_bool, beq_tt, guardP_true, outP_val, guardP_true, w_load_n, g11' x1214, ld11 _ (op_len _ _) (op_known _ rfl), vO_some, outP_val, guardP_true]
    refine ask2_wp (hC11.mono0 x1214) (hl.mono hlt (by simp) (y11.trans x1214)) (by have := (y11.trans x1214).next; omega) [98] 8 1 9 12 (by decide) rfl (by decide) (by simp) _ fun G15 x15 => ?_
    rw [guardP_true, w_eql, outP_val, d12, w_pick_b, outP_val, if_pos rfl]
    exact hK _ ((y11.trans x1214).trans x15)
  unfold m_fieldfarelaw23_CoreOrderttttttt m_fieldfarelaw23_CoreOrdertttttttt
  unfold putE at fin
  rw [if_neg (not_not_intro c3)] at fin
  by_cases i1 : o3.id < 1
  · have d := decide_eq_true i1
    repeat (first | rw [outP_val] | rw [guardP_false] | rw [condP_true] | rw [g4] | rw [op_f3] | rw [d] | rw [boolIs_bool] | rw [beq_ff] | rw [Bool.not_true] | rw [w_pick_b] | rw [if_pos rfl] | rw [w_fieldAddr_ptr] | rw [Nat.zero_add] | rw [w_load_c] | rw [vO_some] | rw [w_lss])
    exact fin 2 (by rw [if_pos (.inl i1)])
  have e1 := decide_eq_false i1
  by_cases i2 : 1000 < o3.id
  · have d := decide_eq_true i2
    repeat (first | rw [outP_val] | rw [guardP_true] | rw [condP_true] | rw [g4] | rw [op_f3] | rw [e1] | rw [d] | rw [boolIs_bool] | rw [beq_ff] | rw [Bool.not_false] | rw [w_pick_b] | rw [if_neg Bool.false_ne_true] | rw [w_fieldAddr_ptr] | rw [Nat.zero_add] | rw [w_load_c] | rw [vO_some] | rw [w_lss] | rw [w_gtr])
    exact fin 2 (by rw [if_pos (.inr i2)])
  have e2 := decide_eq_false i2
  rw [if_neg (by omega)] at fin
  have ln := hv4.is.len vec_sl
  have no : ¬ (o3.vec.length = 2 ∧ ∀ z ∈ o3.vec, -1048576 ≤ z ∧ z ≤ 1048576) → mayB o3.vec 2 = false := fun q => by
    cases r : mayB o3.vec 2 with
    | false => rfl
    | true =>
      obtain ⟨_, _, a, bb⟩ := (mayB_iff _ _).1 r
      exact absurd ⟨by omega, bb⟩ q
  by_cases l2 : o3.vec.length = 2
  case neg =>
    have d : (!decide ((o3.vec.length : Int) = 2)) = true := by rw [decide_eq_false (by omega)]; rfl
    repeat (first | rw [outP_val] | rw [guardP_true] | rw [guardP_false] | rw [condP_true] | rw [g4] | rw [op_f3] | rw [e1] | rw [e2] | rw [op_f7 _ _ p2] | rw [ln] | rw [d] | rw [condP_false] | rw [boolIs_bool] | rw [beq_ff] | rw [Bool.not_true] | rw [Bool.not_false] | rw [w_pick_b] | rw [if_pos rfl] | rw [if_neg Bool.false_ne_true] | rw [w_fieldAddr_ptr] | rw [Nat.zero_add] | rw [w_load_c] | rw [vO_some] | rw [w_lss] | rw [w_gtr] | rw [w_neq])
    exact fin 1 (by rw [if_pos (no fun q => l2 q.1)])
  have d0 : (!decide ((o3.vec.length : Int) = 2)) = false := by rw [decide_eq_true (by omega)]; rfl
  obtain ⟨r0, a1, _, a3⟩ := hv4.is.at (j := 0) (by omega)
  obtain ⟨r1, b1, _, b3⟩ := hv4.is.at (j := 1) (by omega)
  have a1' : ∀ G : AH, w_indexAddr (.sl 1) G v' (.int .i64 0) = some (.val (.ptr (some (b, r0))) G) := a1
  have b1' : ∀ G : AH, w_indexAddr (.sl 1) G v' (.int .i64 1) = some (.val (.ptr (some (b, r1))) G) := b1
  have m0 := List.getElem_mem (show 0 < o3.vec.length by omega)
  have m1 := List.getElem_mem (show 1 < o3.vec.length by omega)
  by_cases j1 : o3.vec[0]'(by omega) < -1048576
  · have d := decide_eq_true j1
    repeat (first | rw [outP_val] | rw [guardP_true] | rw [guardP_false] | rw [condP_true] | rw [g4] | rw [op_f3] | rw [e1] | rw [e2] | rw [op_f7 _ _ p2] | rw [ln] | rw [d0] | rw [a1'] | rw [a3] | rw [d] | rw [condP_false] | rw [boolIs_bool] | rw [beq_ff] | rw [Bool.not_true] | rw [Bool.not_false] | rw [w_pick_b] | rw [if_pos rfl] | rw [if_neg Bool.false_ne_true] | rw [w_fieldAddr_ptr] | rw [Nat.zero_add] | rw [w_load_c] | rw [vO_some] | rw [w_lss] | rw [w_gtr] | rw [w_neq])
    exact fin 1 (by rw [if_pos (no fun q => by have := q.2 _ m0; omega)])
  have h1 := decide_eq_false j1
  by_cases j2 : (1048576 : Int) < o3.vec[0]'(by omega)
  · have d := decide_eq_true j2
    repeat (first | rw [outP_val] | rw [guardP_true] | rw [guardP_false] | rw [condP_true] | rw [g4] | rw [op_f3] | rw [e1] | rw [e2] | rw [op_f7 _ _ p2] | rw [ln] | rw [d0] | rw [a1'] | rw [a3] | rw [h1] | rw [d] | rw [condP_false] | rw [boolIs_bool] | rw [beq_ff] | rw [Bool.not_true] | rw [Bool.not_false] | rw [w_pick_b] | rw [if_pos rfl] | rw [if_neg Bool.false_ne_true] | rw [w_fieldAddr_ptr] | rw [Nat.zero_add] | rw [w_load_c] | rw [vO_some] | rw [w_lss] | rw [w_gtr] | rw [w_neq])
    exact fin 1 (by rw [if_pos (no fun q => by have := q.2 _ m0; omega)])
  have h2 := decide_eq_false j2
  by_cases j3 : o3.vec[1]'(by omega) < -1048576
  · have d := decide_eq_true j3
    repeat (first | rw [outP_val] | rw [guardP_true] | rw [guardP_false] | rw [condP_true] | rw [g4] | rw [op_f3] | rw [e1] | rw [e2] | rw [op_f7 _ _ p2] | rw [ln] | rw [d0] | rw [a1'] | rw [a3] | rw [h1] | rw [h2] | rw [b1'] | rw [b3] | rw [d] | rw [condP_false] | rw [boolIs_bool] | rw [beq_ff] | rw [Bool.not_true] | rw [Bool.not_false] | rw [w_pick_b] | rw [if_pos rfl] | rw [if_neg Bool.false_ne_true] | rw [w_fieldAddr_ptr] | rw [Nat.zero_add] | rw [w_load_c] | rw [vO_some] | rw [w_lss] | rw [w_gtr] | rw [w_neq])
    exact fin 1 (by rw [if_pos (no fun q => by have := q.2 _ m1; omega)])
  have h3 := decide_eq_false j3
  by_cases j4 : (1048576 : Int) < o3.vec[1]'(by omega)
  · have d := decide_eq_true j4
    repeat (first | rw [outP_val] | rw [guardP_true] | rw [condP_true] | rw [g4] | rw [op_f3] | rw [e1] | rw [e2] | rw [op_f7 _ _ p2] | rw [ln] | rw [d0] | rw [a1'] | rw [a3] | rw [h1] | rw [h2] | rw [b1'] | rw [b3] | rw [h3] | rw [d] | rw [condP_false] | rw [boolIs_bool] | rw [beq_ff] | rw [Bool.not_false] | rw [w_pick_b] | rw [if_neg Bool.false_ne_true] | rw [w_fieldAddr_ptr] | rw [Nat.zero_add] | rw [w_load_c] | rw [vO_some] | rw [w_lss] | rw [w_gtr] | rw [w_neq])
    exact fin 1 (by rw [if_pos (no fun q => by have := q.2 _ m1; omega)])
  have h4 := decide_eq_false j4
  have yes : mayB o3.vec 2 = true := (mayB_iff _ _).2 ⟨by omega, by omega, by omega, fun z hz => by
    obtain ⟨i, hi, rfl⟩ := List.getElem_of_mem hz
    have : i = 0 ∨ i = 1 := by omega
    rcases this with rfl | rfl <;> omega⟩
  rw [if_neg (by rw [yes]; decide)] at fin
  by_cases pl : 40 < o3.pay.length
  · have d : decide ((40 : Int) < (o3.pay.length : Int)) = true := decide_eq_true (by omega)
    repeat (first | rw [outP_val] | rw [guardP_true] | rw [condP_true] | rw [g4] | rw [op_f3] | rw [e1] | rw [e2] | rw [op_f7 _ _ p2] | rw [ln] | rw [d0] | rw [a1'] | rw [a3] | rw [h1] | rw [h2] | rw [b1'] | rw [b3] | rw [h3] | rw [h4] | rw [op_f8] | rw [len_strK] | rw [d] | rw [condP_false] | rw [boolIs_bool] | rw [beq_ff] | rw [Bool.not_false] | rw [w_pick_b] | rw [if_neg Bool.false_ne_true] | rw [w_fieldAddr_ptr] | rw [Nat.zero_add] | rw [w_load_c] | rw [vO_some] | rw [w_lss] | rw [w_gtr] | rw [w_neq])
    exact fin 11 (by rw [if_pos pl])
  · have d : decide ((40 : Int) < (o3.pay.length : Int)) = false := decide_eq_false (by omega)
    repeat (first | rw [outP_val] | rw [guardP_true] | rw [g4] | rw [op_f3] | rw [e1] | rw [e2] | rw [op_f7 _ _ p2] | rw [ln] | rw [d0] | rw [a1'] | rw [a3] | rw [h1] | rw [h2] | rw [b1'] | rw [b3] | rw [h3] | rw [h4] | rw [op_f8] | rw [len_strK] | rw [d] | rw [condP_false] | rw [boolIs_bool] | rw [beq_ff] | rw [Bool.not_false] | rw [w_pick_b] | rw [if_neg Bool.false_ne_true] | rw [w_fieldAddr_ptr] | rw [Nat.zero_add] | rw [w_load_c] | rw [vO_some] | rw [w_lss] | rw [w_gtr] | rw [w_neq])
    exact fin 0 (by rw [if_neg pl])
end
end Go.Ab
