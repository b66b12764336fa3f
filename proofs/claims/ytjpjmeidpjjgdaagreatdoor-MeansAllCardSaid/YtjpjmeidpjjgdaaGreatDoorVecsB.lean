/- Vectors that a law makes of its input: of one length, of numbers that may be. -/
import Derived.Test.YtjpjmeidpjjgdaaGreatDoorVecsA
import Derived.Test.YtjpjmeidpjjgdaaGreatDoorMMid
namespace Go.Ab
noncomputable section
open Go.Proofs
set_option maxRecDepth 10000
variable {H H' : AH}

theorem dim_wp (n : Int) (K : AV → AH → Prop) (hK : ∀ d : Nat, 1 ≤ d → d ≤ 8 → K (.int .i64 d) H) : CC.call 20 [.int .i64 n] H K := by
  refine m_fieldfarelaw7_Dim_ok _ _ _ ?_
  unfold m_fieldfarelaw7_Dim
  obtain ⟨m1, m2, m3, m4⟩ := modn n (m := 8) (by decide)
  have q : (8 : Int) ≠ 0 := by decide
  rw [w_rem _ _ _ q, outP_val, w_add_in (by omega) (by omega), outP_val, w_rem _ _ _ q, outP_val, w_add_in (by omega) (by omega), outP_val]
  have := hK (1 + (n.tmod 8 + 8).tmod 8).toNat (by omega) (by omega)
  rw [show (((1 + (n.tmod 8 + 8).tmod 8).toNat : Nat) : Int) = 1 + (n.tmod 8 + 8).tmod 8 by omega] at this
  exact this

/-! One. -/
def clampF (V : List Int) (i : Nat) : Int := if i < V.length then max (-1048576) (min (V.getD i 0) 1048576) else 0
def vecL (V : List Int) (d : Nat) : List Int := (List.range d).map (clampF V)
theorem vecL_len (V : List Int) (d : Nat) : (vecL V d).length = d := by simp [vecL]
theorem clampF_in (V : List Int) (i : Nat) : -1048576 ≤ clampF V i ∧ clampF V i ≤ 1048576 := by unfold clampF; split <;> omega
theorem vecL_in (V : List Int) (d : Nat) : ∀ x ∈ vecL V d, -1048576 ≤ x ∧ x ≤ 1048576 := by
  intro x hx
  obtain ⟨i, _, rfl⟩ := List.mem_map.1 hx
  exact clampF_in V i
theorem fillTo_rest (f : Nat → Int) (n j : Nat) (h : ∀ i, j ≤ i → f i = 0) : fillTo f n j = (List.range n).map f := by
  unfold fillTo
  refine List.map_congr_left fun i _ => ?_
  by_cases q : i < j
  · rw [if_pos q]
  · rw [if_neg q, h i (by omega)]
theorem vec_wp {b : Nat} {s : AV} {V : List Int} (h : Is .i32 H b s V) (d : Nat) (hd : d ≤ 8) (K : AV → AH → Prop)
    (hK : ∀ H' s' B, Ext [] H H' → H.next ≤ B → Os 21 .i32 H' B s' (vecL V d) → K s' H') : CC.call 26 [s, .int .i64 d] H K := by
  refine m_fieldfarelaw7_Vec_ok _ _ _ _ ?_
  unfold m_fieldfarelaw7_Vec m_fieldfarelaw7_Vect
  obtain ⟨G, q1, x1, n1, o1⟩ := make_nums (H := H) i32_el i32_by (by omega) (n := d) (by omega)
  rw [q1, outP_val]
  generalize (AV.slice (some (H.next, 0)) d d true) = c at *
  unfold m_fieldfarelaw7_Vectth m_fieldfarelaw7_Vectthtb
  refine loopP_rule (I := fun t G' => ∃ j : Nat, t = (s, .int .i64 d, c, .int .i64 j) ∧ j ≤ d ∧ j ≤ V.length ∧ Ext [H.next] G G' ∧ Os 21 .i32 G' H.next c (fillTo (clampF V) d j)) (μ := fun t _ => match t.2.2.2 with | .int _ z => d - z.toNat | _ => 0) ?_ ⟨0, rfl, Nat.zero_le _, Nat.zero_le _, Ext.refl _ _, by rw [fillTo_zero]; exact o1⟩
  rintro t G' ⟨j, rfl, hj, hjV, x2, o2⟩ rec hrec
  have lv := h.len vec_sl
  unfold m_fieldfarelaw7_Vectthtbl
  have fin : (∀ i, j ≤ i → i < d → clampF V i = 0) → K c G' := by
    intro q
    have e : fillTo (clampF V) d j = vecL V d := by
      unfold fillTo vecL
      refine List.map_congr_left fun i hi => ?_
      by_cases r : i < j
      · rw [if_pos r]
      · rw [if_neg r, q i (by omega) (List.mem_range.1 hi)]
    rw [e] at o2
    refine hK _ _ H.next ((x1.mono (by simp)).trans x2 |>.mono fun b hb hlt => ?_) (Nat.le_refl _) o2
    simp at hb; omega
  rw [w_lss, outP_val, boolIs_bool, beq_tt]
  by_cases c1 : j < d
  · rw [decide_eq_true (by omega), guardP_true, outP_val, guardP_true, outP_val, guardP_true, lv, outP_val, guardP_true, w_lss, outP_val, w_pick_b, outP_val, if_pos rfl]
    by_cases c2 : j < V.length
    · have h2 : Is .i32 G' b s V := Sl.mono' (Sl.mono h x1 (by simp)) x2 (fun q => by
        rcases Sl.low h with r | r
        · simp at q; omega
        · exact r)
      obtain ⟨o, a1, a2, a3⟩ := h2.at c2
      obtain ⟨p, b1, b2, b3, b4⟩ := o2.at (j := j) (by rw [fillTo_len]; exact c1)
      obtain ⟨G4, z1, z2, z3, o4⟩ := b4 (clampF V j)
      rw [fillTo_set] at o4
      have e : max (-1048576) (min V[j] 1048576) = clampF V j := by unfold clampF; rw [if_pos c2, getD_at c2]
      rw [decide_eq_true (by omega), condP_true, a1, outP_val, w_load_c, a3, vO_some, outP_val, w_min2_int, outP_val, w_max2_int, outP_val, e, b1, outP_val, w_store_c, z1, outP_skip, w_add_in (by omega) (by omega), outP_val]
      refine hrec _ _ ⟨j + 1, by rfl, by omega, by omega, x2.trans z2, o4⟩ ?_
      show d - ((j : Int) + 1).toNat < d - (j : Int).toNat
      omega
    · rw [decide_eq_false (by omega), condP_false]
      exact fin fun i hi _ => by unfold clampF; rw [if_neg (by omega)]
  · rw [decide_eq_false (by omega), guardP_false, guardP_false, guardP_false, guardP_false, w_pick_b, outP_val, if_neg (by simp), condP_false]
    exact fin fun i hi hid => absurd hid (by omega)

/-! Some. -/
/-- A vector that has a block of its own. -/
structure VOs (H : AH) (z : Vq) : Prop where
  os : Os 21 .i32 H z.2.1 z.1 z.2.2
  in32 : In32 z.2.2
theorem VOs.el {z : Vq} (h : VOs H z) : VEl H z := ⟨h.os.is, h.in32⟩
theorem VOs.mono {z : Vq} (h : VOs H z) {m : List Nat} (e : Ext m H H') (hm : z.2.1 ∉ m) : VOs H' z := ⟨Own.mono h.os e hm, h.in32⟩
theorem bs_vec {v : AV} (h : SlK v) : w_buildSlice PP 38 1 H [(0, v)] none = some (.val (.slice (some (H.next, 0)) 1 1 true) (H.new (.cells 38 [v]))) := by
  have h1 : Nat.ble (1 * 1) 16777216 = true := rfl
  have h2 : fillA (fun i => some (i * 1, 1)) [(0, v)] (reps 1 [AV.slice none 0 0 true]) = some [v] := by
    rcases h with rfl | ⟨_, _, rfl⟩ | ⟨_, _, _, _, _, rfl⟩ <;> rfl
  have h3 : allB (fun x : Nat × AV => allB AV.one x.2.parts) [(0, v)] = true := by
    rcases h with rfl | ⟨_, _, rfl⟩ | ⟨_, _, _, _, _, rfl⟩ <;> rfl
  simp only [w_buildSlice, oBuildSlice, vec_el, h1, h2, h3, br_true, val_mk, ob_some, newSlice, newTo_none_eq]
theorem push_vec {B : Nat} {s : AV} {Z : List Vq} (ho : Own H 38 1 B s (vrow Z)) (hL : Z.length ≤ 1000) (z : Vq) (hz : SlK z.1) (K : AV → AH → Prop)
    (hK : ∀ H' s' B', Ext [B] H H' → (B' = B ∨ H.next < B') → Own H' 38 1 B' s' (vrow (Z ++ [z])) → K s' H') :
    outP CC H (w_buildSlice PP 38 1 H [(0, z.1)] none) fun v G => outP CC G (w_append 38 1 24 G s v none) K := by
  refine st (bs_vec hz) ?_
  have kn : z.1.known = true ∧ z.1.one = true := by rcases hz with q | ⟨_, _, q⟩ | ⟨_, _, _, _, _, q⟩ <;> rw [q] <;> exact ⟨rfl, rfl⟩
  have x1 : Ext [] H (H.new (.cells 38 [z.1])) := (Ext.refl _ _).new _
  have o1 : Own (H.new (.cells 38 [z.1])) 38 1 H.next (.slice (some (H.next, 0)) 1 1 true) (vrow [z]) :=
    ⟨.inr ⟨0, 1, true, _, rfl, get_new_same _ _, Nat.le_refl _, Nat.le_refl _, fun q => (by cases q), rfl, by rw [next_new]; omega⟩, by simp, by simp [kn.1], by simp [kn.2]⟩
  obtain ⟨s', H', B', e1, e2, e3, e4⟩ := (ho.mono x1 (by simp)).append (by_ := 24) o1.sl (by omega) (by simp only [List.length_map, List.length_singleton]; omega)
  refine st e1 (hK _ _ B' ((x1.mono (by simp)).trans e2) ?_ ?_)
  · rw [next_new] at e3; omega
  · rw [show vrow (Z ++ [z]) = vrow Z ++ vrow [z] from List.map_append]; exact e4
/-- Several, in blocks of their own. -/
structure Zs (H : AH) (B : Nat) (s : AV) (Z : List Vq) (N : Nat) : Prop where
  own : Own H 38 1 B s (vrow Z)
  vos : ∀ z ∈ Z, VOs H z ∧ z.2.1 < H.next ∧ N ≤ z.2.1
  apart : Z.Pairwise fun x y => x.2.1 ≠ y.2.1
  ne : ∀ z ∈ Z, z.2.1 ≠ B
theorem vecs_wp {b : Nat} {s : AV} {Y : List Vq} (h : Sl H 1 b s (vrow Y)) (hy : ∀ y ∈ Y, VEl H y) (d n : Nat) (hd : 1 ≤ d ∧ d ≤ 8) (hn : n ≤ 100) (K : AV → AH → Prop)
    (hK : ∀ H' s' B Z, Ext [] H H' → H.next ≤ B → Zs H' B s' Z H.next → Z.map (fun z => z.2.2) = (Y.take n).map (fun y => vecL y.2.2 d) → K s' H') : CC.call 21 [s, .int .i64 d, .int .i64 n] H K := by
  refine m_fieldfarelaw7_Vecs_ok _ _ _ _ _ ?_
  unfold m_fieldfarelaw7_Vecs m_fieldfarelaw7_Vecst m_fieldfarelaw7_Vecstth m_fieldfarelaw7_Vecstthtb
  refine loopP_rule (I := fun t G => ∃ (j B : Nat) (s' : AV) (Z : List Vq), t = (s, .int .i64 d, .int .i64 n, s', .int .i64 j) ∧ j ≤ Y.length ∧ j ≤ n ∧ Ext [] H G ∧ H.next ≤ B ∧ Zs G B s' Z H.next ∧ Z.map (fun z => z.2.2) = (Y.take j).map (fun y => vecL y.2.2 d) ∧ (j = 0 → s' = .slice none 0 0 true ∧ Z = []))
    (μ := fun t _ => match t.2.2.2.2 with | .int _ z => n - z.toNat | _ => 0) ?_ ⟨0, H.next, _, [], rfl, Nat.zero_le _, Nat.zero_le _, Ext.refl _ _, Nat.le_refl _, ⟨Own.nil _ _ _ _, by simp, List.Pairwise.nil, by simp⟩, by simp, fun _ => ⟨rfl, rfl⟩⟩
  rintro t G ⟨j, B, s', Z, rfl, hj, hjn, x1, hB, hz, hZ, hnil⟩ rec hrec
  unfold m_fieldfarelaw7_Vecstthtbl
  have hsG := h.mono x1 (m := []) (by simp)
  have fin : j = Y.length ∨ j = n → K s' G := by
    intro q
    refine hK _ _ B Z x1 hB hz ?_
    rw [hZ]
    rcases q with q | q
    · rw [List.take_of_length_le (by omega), List.take_of_length_le (by omega)]
    · rw [q]
  rw [vrow_len hsG, outP_val, w_lss, outP_val, boolIs_bool, beq_tt]
  by_cases c1 : j < Y.length
  · rw [decide_eq_true (by omega), guardP_true, outP_val, guardP_true, outP_val, guardP_true, w_lss, outP_val, w_pick_b, outP_val, if_pos rfl]
    by_cases c2 : j < n
    · obtain ⟨o, a1, a2, a3⟩ := vrow_at hsG c1
      rw [decide_eq_true (by omega), condP_true, a1, outP_val, w_load_c, a3, vO_some, outP_val, outP_enter]
      refine vec_wp ((hy _ (List.getElem_mem c1)).mono0 x1).is d hd.2 _ fun G1 v Bv x2 hBv ov => ?_
      have n1 := x2.next
      have hBvn : Bv < G1.next := (Own.low ov).resolve_right (fun q => by have e := vecL_len Y[j].2.2 d; rw [List.map_eq_nil_iff.1 q] at e; simp at e; omega)
      -- the slice's own block, apart from the vector's
      have hZl : Z.length = j := by have := congrArg List.length hZ; simp at this; omega
      obtain ⟨B0, hB0, hzo⟩ : ∃ B0, (B0 = B ∧ B < G.next ∨ B0 = G1.next) ∧ Own G1 38 1 B0 s' (vrow Z) := by
        rcases Nat.eq_zero_or_pos j with q | q
        · obtain ⟨e1, e2⟩ := hnil q
          rw [e1, e2]
          exact ⟨G1.next, .inr rfl, Own.nil _ _ _ _⟩
        · have hl := (Own.low hz.own).resolve_right (fun r => by rw [List.map_eq_nil_iff.1 r] at hZl; simp at hZl; omega)
          exact ⟨B, .inl ⟨rfl, hl⟩, hz.own.mono x2 (by simp)⟩
      refine push_vec hzo (by omega) (v, Bv, vecL Y[j].2.2 d) (Sl.slk (Own.sl ov)) _ fun G2 s2 B2 x3 hB2 o3 => ?_
      have n2 := x3.next
      have hBv0 : Bv ≠ B0 := by rcases hB0 with ⟨e, _⟩ | e <;> omega
      have hvZ : ∀ z ∈ Z, z.2.1 ≠ B0 := fun z q => by
        have h1 := hz.vos z q
        have h2 := hz.ne z q
        rcases hB0 with ⟨e, _⟩ | e <;> omega
      rw [w_add_in (by omega) (by omega), outP_val]
      refine hrec _ _ ⟨j + 1, B2, s2, Z ++ [(v, Bv, vecL Y[j].2.2 d)], by rfl, by omega, by omega, ?_, ?_, ⟨o3, fun z q => ?_, ?_, fun z q => ?_⟩, ?_, fun q => absurd q (by omega)⟩ ?_
      · refine (((x1.trans x2).mono (m' := [B0]) (by simp)).trans x3).mono fun b hb hlt => ?_
        have := x1.next
        simp at hb
        rcases hB0 with ⟨e, _⟩ | e <;> omega
      · have := x1.next
        rcases hB0 with ⟨e, _⟩ | e <;> omega
      · rcases List.mem_append.1 q with q | q
        · obtain ⟨v1, v2, v3⟩ := hz.vos z q
          exact ⟨(v1.mono x2 (by simp)).mono x3 (by simp; exact hvZ z q), by omega, v3⟩
        · have e := List.mem_singleton.1 q
          subst e
          refine ⟨⟨Own.mono ov x3 (by simp; exact hBv0), fun x hx => ?_⟩, by show Bv < _; omega, by have := x1.next; show _ ≤ Bv; omega⟩
          have := vecL_in _ _ x hx; omega
      · refine List.pairwise_append.2 ⟨hz.apart, List.pairwise_singleton _ _, fun x hx y hy' => ?_⟩
        have e := List.mem_singleton.1 hy'
        subst e
        have := (hz.vos x hx).2.1
        show x.2.1 ≠ Bv
        omega
      · rcases List.mem_append.1 q with q | q
        · have h1 := hz.vos z q
          have h2 := hvZ z q
          omega
        · have e := List.mem_singleton.1 q
          subst e
          show Bv ≠ B2
          omega
      · rw [List.map_append, hZ, List.take_succ_eq_append_getElem c1, List.map_append]; rfl
      · show n - ((j : Int) + 1).toNat < n - (j : Int).toNat
        omega
    · rw [decide_eq_false (by omega), condP_false]
      exact fin (.inr (by omega))
  · rw [decide_eq_false (by omega), guardP_false, guardP_false, guardP_false, w_pick_b, outP_val, if_neg (by simp), condP_false]
    exact fin (.inl (by omega))
end
end Go.Ab
