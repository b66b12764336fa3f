/- fieldfarelaw7.QuantTurn: what it does, at any input. -/
import Derived.Test.YtapkhdlohcbcmaaGreatDoorQall
import Derived.Test.YtapkhdlohcbcmaaGreatDoorVecsB
import Derived.Test.YtapkhdlohcbcmaaGreatDoorN7
namespace Go.Ab
noncomputable section
open Go.Proofs
set_option maxRecDepth 10000
variable {H H' : AH}

theorem lhS_same {Z W : List (List Int)} (h : ∀ V, V ∈ Z ↔ V ∈ W) (i : Nat) : lhS Z i Z.length = lhS W i W.length := by
  have at_ : ∀ (Z : List (List Int)) (j : Nat), j < Z.length → Z.getD j [] ∈ Z := fun Z j hj => by
    rw [List.getD_eq_getElem?_getD, List.getElem?_eq_getElem hj]; exact List.getElem_mem hj
  have back : ∀ (Z : List (List Int)) V, V ∈ Z → ∃ j, j < Z.length ∧ Z.getD j [] = V := fun Z V hV => by
    obtain ⟨j, hj, e⟩ := List.mem_iff_getElem.1 hV
    exact ⟨j, hj, by rw [List.getD_eq_getElem?_getD, List.getElem?_eq_getElem hj, ← e]; rfl⟩
  have half : ∀ (Z W : List (List Int)), (∀ V, V ∈ W → V ∈ Z) → 0 < W.length → (lhS Z i Z.length).1 ≤ (lhS W i W.length).1 ∧ (lhS W i W.length).2 ≤ (lhS Z i Z.length).2 := fun Z W h hW => by
    obtain ⟨⟨a, ha, ea⟩, ⟨b, hb, eb⟩⟩ := (lhS_spec (Z := W) i W.length).2 hW
    obtain ⟨a', ha', ea'⟩ := back Z _ (h _ (at_ W a ha))
    obtain ⟨b', hb', eb'⟩ := back Z _ (h _ (at_ W b hb))
    have h1 := ((lhS_spec (Z := Z) i Z.length).1 a' ha').1
    have h2 := ((lhS_spec (Z := Z) i Z.length).1 b' hb').2
    rw [ea'] at h1
    rw [eb'] at h2
    rw [ea, eb]
    exact ⟨h1, h2⟩
  rcases Nat.eq_zero_or_pos Z.length with q | q
  · have e1 : Z = [] := List.length_eq_zero_iff.1 q
    subst e1
    have e2 : W = [] := List.eq_nil_iff_forall_not_mem.2 fun V hV => List.not_mem_nil ((h V).2 hV)
    subst e2
    rfl
  · have q' : 0 < W.length := by
      rcases Nat.eq_zero_or_pos W.length with r | r
      · have e2 : W = [] := List.length_eq_zero_iff.1 r
        subst e2
        exact absurd ((h _).1 (at_ Z 0 q)) List.not_mem_nil
      · exact r
    have h1 := half Z W (fun V => (h V).2) q'
    have h2 := half W Z (fun V => (h V).1) q
    exact Prod.ext (by omega) (by omega)
theorem good_same {Z W : List Vq} (h : ∀ y, y ∈ Z ↔ y ∈ W) (dim : Int) : ∀ V, V ∈ goodL Z dim ↔ V ∈ goodL W dim := by
  have half : ∀ {Z W : List Vq}, (∀ y, y ∈ Z → y ∈ W) → ∀ V, V ∈ goodL Z dim → V ∈ goodL W dim := fun h V hV => by
    obtain ⟨y, hy, rfl⟩ := List.mem_map.1 hV
    obtain ⟨q1, q2⟩ := List.mem_filter.1 hy
    exact List.mem_map.2 ⟨y, List.mem_filter.2 ⟨h _ q1, q2⟩, rfl⟩
  exact fun V => ⟨half (fun y => (h y).1) V, half (fun y => (h y).2) V⟩
theorem make_same {Z W : List Vq} (h : ∀ y, y ∈ Z ↔ y ∈ W) (dim : Int) : makeLo Z dim = makeLo W dim ∧ makeSt Z dim = makeSt W dim := by
  have hg := good_same h dim
  have e := fun i => lhS_same hg i
  constructor
  · exact List.map_congr_left fun i _ => by unfold lowF; rw [e i]
  · exact List.map_congr_left fun i _ => by unfold stpF; rw [e i]
theorem makeLo_len (Y : List Vq) {d : Nat} (h1 : 1 ≤ d) (h8 : d ≤ 8) : (makeLo Y d).length = d ∧ (makeSt Y d).length = d := by
  have hN : makeN (d : Int) = d := by unfold makeN; rw [if_pos (by omega)]; rfl
  unfold makeLo makeSt
  rw [hN]; simp
/-- The second book, and both held together. -/
theorem turn_end {p b1 b2 bW : Nat} {l1 s1 sW : AV} {Z W : List Vq} {d : Nat} (h1 : 1 ≤ d) (h8 : d ≤ 8) (hp : H.get p = some (.cells 47 [l1, s1])) (hpn : p < H.next) (hbk : Bk H l1 s1 b1 b2 (makeLo Z d) (makeSt Z d))
    (hW : Sl H 1 bW sW (vrow W)) (hl : W.length ≤ 1000) (he : ∀ y ∈ W, VEl H y) (hs : ∀ y, y ∈ W ↔ y ∈ Z) (K : AV → AH → Prop) (hK : ∀ H', Ext [] H H' → K (.bool true) H') :
    m_fieldfarelaw7_QuantTurnttttttttt K (.int .i64 d) (.ptr (some (p, 0))) sW H := by
  unfold m_fieldfarelaw7_QuantTurnttttttttt
  rw [outP_enter]
  refine make_wp hW hl he d _ fun G2 lo st bl bs x2 hbl hbs hb2 => ?_
  obtain ⟨e1, e2⟩ := make_same hs d
  rw [e1, e2] at hb2
  obtain ⟨f1, f2, _, f3⟩ := hb2.lo.facts
  obtain ⟨g1, g2, _, g3⟩ := hb2.st.facts
  rw [w_alloc_none, outP_val, w_store_c, get_new_same, stN_two _ _ _ _ _ _ f1 g1, outP_skip]
  have x3 : Ext [] G2 ((G2.new (.cells 47 [.slice none 0 0 true, .slice none 0 0 true])).put G2.next (some (.cells 47 [lo, st]))) := ((Ext.refl _ _).new _).put (.inl (Nat.le_refl _)) _
  have hp2 := get_put_same (H := G2.new (.cells 47 [.slice none 0 0 true, .slice none 0 0 true])) G2.next (some (.cells 47 [lo, st]))
  have hb2 := hb2.mono0 x3
  have x23 := x2.trans x3
  have hb1 := hbk.mono0 x23
  have hp1 := x23.get hpn (by simp) hp
  generalize (G2.new (.cells 47 [.slice none 0 0 true, .slice none 0 0 true])).put G2.next (some (.cells 47 [lo, st])) = G at *
  obtain ⟨k1, k2, _, k3⟩ := hb1.lo.facts
  obtain ⟨m1, m2, _, m3⟩ := hb1.st.facts
  have ld2 : ∀ G' : AH, Ext [] G G' → ldN 2 (G'.get p) 0 = some (.agg [l1, s1]) := fun G' e => by rw [e.get (by have := x23.next; omega) (by simp) hp1, ldN_two _ k3 m3]
  have ldl : ∀ G' : AH, Ext [] G G' → ldV (G'.get p) 0 = some l1 := fun G' e => by rw [e.get (by have := x23.next; omega) (by simp) hp1, ldV_cells, show ([l1, s1] : List AV)[0]? = some l1 from rfl, ob_some, k2]
  have r0 := Ext.refl [] G
  have lo2 : ldV (G.get G2.next) 0 = some lo := by rw [hp2, ldV_cells, show ([lo, st] : List AV)[0]? = some lo from rfl, ob_some, f2]
  have st2 : ldV (G.get G2.next) 1 = some st := by rw [hp2, ldV_cells, show ([lo, st] : List AV)[1]? = some st from rfl, ob_some, g2]
  obtain ⟨ll, ls⟩ := makeLo_len Z h1 h8
  have n1 := hb1.lo.len i32_sl
  rw [ll] at n1
  have dl : ∀ z : Int, decide (z = z) = true := fun z => decide_eq_true rfl
  repeat (first | rw [outP_val] | rw [guardP_true] | rw [guardP_false] | rw [condP_true] | rw [ld2 G r0] | rw [lo2] | rw [st2] | rw [ldl G r0] | rw [rbook_build (Sl.slk hb2.lo) (Sl.slk hb2.st)] | rw [beq_two (Sl.slk hb1.lo) (Sl.slk hb1.st)] | rw [beq_slk (Sl.slk hb1.lo)] | rw [reC_val] | rw [ckP_true] | rw [condP_false] | rw [boolIs_bool] | rw [beq_tt] | rw [beq_ff] | rw [Bool.not_true] | rw [Bool.not_false] | rw [outP_skip] | rw [w_pick_b] | rw [if_pos rfl] | rw [if_neg Bool.false_ne_true] | rw [w_fieldAddr_ptr] | rw [w_nil_ptr] | rw [Nat.zero_add] | rw [w_load_c] | rw [w_load_n] | rw [vO_some] | rw [w_store_c] | rw [w_not] | rw [w_lss] | rw [w_leq] | rw [w_gtr] | rw [w_geq] | rw [w_eql] | rw [w_neq] | rw [w_cint] | rw [w_min2_int] | rw [w_max2_int] | rw [w_add_in (by omega) (by omega)] | rw [w_sub_in (by omega) (by omega)] | rw [w_mul_in (by omega) (by omega)])
  rw [outP_enter]
  refine books_wp hb1 hb2 (by rw [ll, ls]) _ fun G5 x5 => ?_
  repeat (first | rw [outP_val] | rw [guardP_true] | rw [guardP_false] | rw [condP_true] | rw [ldl G5 x5] | rw [n1] | rw [dl] | rw [condP_false] | rw [boolIs_bool] | rw [beq_tt] | rw [beq_ff] | rw [Bool.not_true] | rw [Bool.not_false] | rw [outP_skip] | rw [w_pick_b] | rw [if_pos rfl] | rw [if_neg Bool.false_ne_true] | rw [w_fieldAddr_ptr] | rw [w_nil_ptr] | rw [Nat.zero_add] | rw [w_load_c] | rw [w_load_n] | rw [vO_some] | rw [w_store_c] | rw [w_not] | rw [w_lss] | rw [w_leq] | rw [w_gtr] | rw [w_geq] | rw [w_eql] | rw [w_neq] | rw [w_cint] | rw [w_min2_int] | rw [w_max2_int] | rw [w_add_in (by omega) (by omega)] | rw [w_sub_in (by omega) (by omega)] | rw [w_mul_in (by omega) (by omega)] | rw [outP_enter])
  exact hK _ (x23.trans x5)
theorem quantTurn_wp {b : Nat} {s : AV} {Y : List Vq} (n turn : Int) (h : Sl H 1 b s (vrow Y)) (hy : ∀ y ∈ Y, VEl H y) (hl : Laid H) (K : AV → AH → Prop) (hK : ∀ H', Ext [] H H' → K (.bool true) H') :
    CC.call 7 [.int .i64 n, s, .int .i64 turn] H K := by
  refine m_fieldfarelaw7_QuantTurn_ok _ _ _ _ _ ?_
  unfold m_fieldfarelaw7_QuantTurn m_fieldfarelaw7_QuantTurnt
  rw [outP_enter]
  refine begun_wp hl _ ?_
  unfold m_fieldfarelaw7_QuantTurntt
  rw [w_not, outP_val, Bool.not_true, condP_false]
  unfold m_fieldfarelaw7_QuantTurnttt
  rw [outP_enter]
  refine dim_wp n _ fun d hd1 hd8 => ?_
  unfold m_fieldfarelaw7_QuantTurntttt
  rw [outP_enter]
  refine vecs_wp h hy d 12 ⟨hd1, hd8⟩ (by omega) _ fun G1 l BZ Z x1 hBZ hz hZ => ?_
  have hZl : Z.length ≤ 12 := by have := congrArg List.length hZ; simp at this; omega
  unfold m_fieldfarelaw7_QuantTurnttttt
  rw [outP_enter]
  refine make_wp hz.own.sl (by omega) (fun z q => (hz.vos z q).1.el) d _ fun G2 lo st bl bs x2 hbl hbs hbk => ?_
  obtain ⟨f1, f2, _, f3⟩ := hbk.lo.facts
  obtain ⟨g1, g2, _, g3⟩ := hbk.st.facts
  rw [w_alloc_none, outP_val, w_store_c, get_new_same, stN_two _ _ _ _ _ _ f1 g1, outP_skip]
  have x3 : Ext [] G2 ((G2.new (.cells 47 [.slice none 0 0 true, .slice none 0 0 true])).put G2.next (some (.cells 47 [lo, st]))) := ((Ext.refl _ _).new _).put (.inl (Nat.le_refl _)) _
  have hp := get_put_same (H := G2.new (.cells 47 [.slice none 0 0 true, .slice none 0 0 true])) G2.next (some (.cells 47 [lo, st]))
  have hpn : G2.next < ((G2.new (.cells 47 [.slice none 0 0 true, .slice none 0 0 true])).put G2.next (some (.cells 47 [lo, st]))).next := by rw [AH.next_put, next_new]; omega
  have hbk := hbk.mono0 x3
  have x13 := (x1.trans x2).trans x3
  have zs : Sl ((G2.new (.cells 47 [.slice none 0 0 true, .slice none 0 0 true])).put G2.next (some (.cells 47 [lo, st]))) 1 BZ l (vrow Z) := Sl.mono hz.own.sl (x2.trans x3) (by simp)
  have ze : ∀ z ∈ Z, VEl ((G2.new (.cells 47 [.slice none 0 0 true, .slice none 0 0 true])).put G2.next (some (.cells 47 [lo, st]))) z := fun z q => (hz.vos z q).1.el.mono0 (x2.trans x3)
  generalize (G2.new (.cells 47 [.slice none 0 0 true, .slice none 0 0 true])).put G2.next (some (.cells 47 [lo, st])) = G at *
  generalize G2.next = p at *
  unfold m_fieldfarelaw7_QuantTurntttttt m_fieldfarelaw7_QuantTurnttttttth
  rw [vrow_len zs, outP_val]
  unfold m_fieldfarelaw7_QuantTurnttttttthtb
  refine loopP_rule (I := fun t G' => ∃ (j B : Nat) (m : AV), t = (.int .i64 d, .int .i64 turn, l, .ptr (some (p, 0)), m, .int .i64 Z.length, .int .i64 j) ∧ j ≤ Z.length ∧ Ext [] G G' ∧ G.next ≤ B ∧ Own G' 25 1 B m (vrow (Z.take j).reverse))
    (μ := fun t _ => match t.2.2.2.2.2.2 with | .int _ z => Z.length - z.toNat | _ => 0) ?_ ⟨0, G.next, _, rfl, Nat.zero_le _, Ext.refl _ _, Nat.le_refl _, Own.nil _ _ _ _⟩
  rintro t G' ⟨j, B, m, rfl, hj, y1, hB, om⟩ rec hrec
  unfold m_fieldfarelaw7_QuantTurnttttttthtbl
  have zs' := Sl.mono zs y1 (by simp)
  have n1 := y1.next
  rw [w_lss, outP_val]
  by_cases cj : j < Z.length
  · obtain ⟨o, a1, a2, a3⟩ := vrow_at zs' cj
    have zk := Sl.slk (ze _ (List.getElem_mem cj)).is
    rw [decide_eq_true (by omega), condP_true, a1, outP_val, w_load_c, a3, vO_some, outP_val, bs_vec zk, outP_val]
    have kn : Z[j].1.known = true ∧ Z[j].1.one = true := by rcases zk with q | ⟨_, _, q⟩ | ⟨_, _, _, _, _, q⟩ <;> rw [q] <;> exact ⟨rfl, rfl⟩
    have z1 : Ext [] G' (G'.new (.cells 25 [Z[j].1])) := (Ext.refl _ _).new _
    have o1 : Own (G'.new (.cells 25 [Z[j].1])) 25 1 G'.next (.slice (some (G'.next, 0)) 1 1 true) (vrow [Z[j]]) :=
      ⟨.inr ⟨0, 1, true, _, rfl, get_new_same _ _, Nat.le_refl _, Nat.le_refl _, fun q => (by cases q), rfl, by rw [next_new]; omega⟩, by simp, by simp [kn.1], by simp [kn.2]⟩
    obtain ⟨s', G3, B', e1, e2, e3, e4⟩ := o1.append (by_ := 24) (Own.mono om z1 (by simp)).sl (by omega) (by simp only [List.length_map, List.length_singleton, List.length_reverse, List.length_take]; omega)
    rw [next_new] at e3
    rw [e1, outP_val, w_add_in (by omega) (by omega), outP_val]
    refine hrec _ _ ⟨j + 1, B', s', by rfl, by omega, ?_, by omega, ?_⟩ ?_
    · exact y1.trans (((z1.mono (m' := [G'.next]) (by simp)).trans e2).mono fun b hb hlt => by simp at hb; omega)
    · rw [List.take_succ_eq_append_getElem cj, List.reverse_append]
      rw [← List.map_append] at e4
      exact e4
    · show Z.length - ((j : Int) + 1).toNat < Z.length - (j : Int).toNat
      omega
  · rw [decide_eq_false (by omega), condP_false]
    have ej : j = Z.length := by omega
    subst ej
    rw [List.take_length] at om
    have hp' := y1.get hpn (by simp) hp
    have hbk' := hbk.mono0 y1
    have ze' : ∀ z ∈ Z, VEl G' z := fun z q => (ze z q).mono0 y1
    unfold m_fieldfarelaw7_QuantTurntttttttt
    rw [vrow_len zs', outP_val, w_gtr, outP_val]
    by_cases c : 0 < Z.length
    · obtain ⟨q1, q2, q3, q4⟩ := modn turn (m := (Z.length : Int)) (by omega)
      rw [decide_eq_true (by omega), condP_true, vrow_len zs', outP_val, w_rem _ _ _ (by omega), outP_val, vrow_len zs', outP_val, w_add_in (by omega) (by omega), outP_val, vrow_len zs', outP_val, w_rem _ _ _ (by omega), outP_val]
      obtain ⟨i, hi⟩ : ∃ i : Nat, (turn.tmod (Z.length : Int) + (Z.length : Int)).tmod (Z.length : Int) = i := ⟨_, (Int.toNat_of_nonneg q3).symm⟩
      rw [hi] at q4 ⊢
      have ci : i < Z.length := by omega
      obtain ⟨o, a1, a2, a3⟩ := vrow_at zs' ci
      rw [a1, outP_val, w_load_c, a3, vO_some, outP_val]
      refine push_vec om (by rw [List.length_reverse]; omega) Z[i] (Sl.slk (ze _ (List.getElem_mem ci)).is) _ fun G3 s3 B3 w1 hB3 o3 => ?_
      have w0 : Ext [] G G3 := (y1.mono (m' := [B]) (by simp)).trans w1 |>.mono fun b hb hlt => by simp at hb; omega
      refine turn_end hd1 hd8 (w0.get hpn (by simp) hp) (by have := w0.next; omega) (hbk.mono0 w0) o3.sl (by simp; omega) (fun y q => ?_) (fun y => ?_) K fun G4 w4 => hK _ (x13.trans (w0.trans w4))
      · rw [List.mem_append, List.mem_reverse] at q
        rcases q with q | q
        · exact (ze y q).mono0 w0
        · rw [List.mem_singleton.1 q]; exact (ze _ (List.getElem_mem ci)).mono0 w0
      · rw [List.mem_append, List.mem_reverse, List.mem_singleton]
        exact ⟨fun q => by rcases q with q | q; exact q; rw [q]; exact List.getElem_mem ci, fun q => .inl q⟩
    · rw [decide_eq_false (by omega), condP_false]
      exact turn_end hd1 hd8 hp' (by omega) hbk' om.sl (by simp; omega) (fun y q => ze' y (List.mem_reverse.1 q)) (fun y => List.mem_reverse) K fun G4 w4 => hK _ (x13.trans (y1.trans w4))
end
end Go.Ab
