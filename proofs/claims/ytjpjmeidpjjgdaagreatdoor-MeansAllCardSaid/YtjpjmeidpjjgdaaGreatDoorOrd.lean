/- means.Order and Nearest: what they tell. -/
import Derived.Test.YtjpjmeidpjjgdaaGreatDoorHit
import Derived.Test.YtjpjmeidpjjgdaaGreatDoorScore
import Derived.Test.YtjpjmeidpjjgdaaGreatDoorVecsB
import Derived.Test.YtjpjmeidpjjgdaaGreatDoorMOrd
namespace Go.Ab
noncomputable section
open Go.Proofs
set_option maxRecDepth 10000
variable {H H' : AH}

theorem hit_buildO (a b : Int) : w_build PP 61 H [(0, .int .i64 a), (1, .int .i64 b)] = some (.val (.agg [.int .i64 a, .int .i64 b]) H) := by kernel_rfl
theorem hit_elO : elT PP 61 = some (2, [.int .i64 0, .int .i64 0]) := by kernel_rfl
theorem hit_byO : byOf PP 61 = some 16 := by kernel_rfl
theorem int_elO : elT PP 3 = some (1, [.int .i64 0]) := by kernel_rfl
theorem flat_hitL : ∀ L : List (Int × Int), (L.map hitL).flatten = (ints2 L).map (AV.int .i64)
  | [] => rfl
  | x :: l => by show hitL x ++ (l.map hitL).flatten = _; rw [flat_hitL l]; rfl
theorem sortF_wp {B : Nat} {s : AV} {L : List (Int × Int)} (h : Own H 61 2 B s (L.map hitL)) (hs : ∃ o n c ex, s = .slice (some (B, o)) n c ex) (hL : L.length ≤ 1000000) (K : AV → AH → Prop) (hK : ∀ H', Ext [B] H H' → H'.next = H.next → Own H' 61 2 B s ((sortH L).map hitL) → K (.tup []) H') :
    CC.call 56 [s, .fn (.func 57) [] []] H K := by
  obtain ⟨q1, q2⟩ | ⟨o, c, ex, cs, q1, q2, q3, q4, q5, q6, q7⟩ := h.ex
  · obtain ⟨_, _, _, _, e⟩ := hs
    rw [q1] at e; cases e
  · rw [List.length_map] at q1 q3 q6
    rw [flat_hitL] at q6
    have hz : hitsA ((cs.drop o).take (L.length * 2)) = some L := by rw [q6]; exact hitsA_of L
    have hs := sortH_len L
    have hl2 : ((ints2 (sortH L)).map (AV.int .i64)).length = L.length * 2 := by rw [List.length_map, ints2_len, hs]
    have tl : (cs.take o).length = o := by rw [List.length_take]; omega
    have len : (cs.take o ++ ((ints2 (sortH L)).map (AV.int .i64) ++ cs.drop (o + L.length * 2))).length = cs.length := by
      rw [List.length_append, List.length_append, hl2, List.length_drop, tl]; omega
    have run : sortFA 57 [s, .fn (.func 57) [] []] H = some (.tup [], H.put B (some (.cells 61 (cs.take o ++ ((ints2 (sortH L)).map (AV.int .i64) ++ cs.drop (o + L.length * 2)))))) := by
      subst q1
      show (match H.get B with
        | some (.cells e cs) => br (Nat.beq 57 57 && (Nat.ble (o + L.length * 2) cs.length && Nat.ble L.length 1000000000)) (ob (hitsA ((cs.drop o).take (L.length * 2))) fun zs => some (AV.tup [], H.put B (some (.cells e (cs.take o ++ ((ints2 (sortH zs)).map (AV.int .i64) ++ cs.drop (o + L.length * 2))))))) none
        | _ => none) = _
      rw [q2]
      have e1 : Nat.ble (o + L.length * 2) cs.length = true := Nat.ble_eq_true_of_le (by omega)
      have e2 : Nat.ble L.length 1000000000 = true := Nat.ble_eq_true_of_le (by omega)
      show br (Nat.beq 57 57 && (Nat.ble (o + L.length * 2) cs.length && Nat.ble L.length 1000000000)) _ none = _
      rw [e1, e2, Nat.beq_refl, Bool.true_and, Bool.true_and, br_true, hz, ob_some]
    refine prim_wp (P := PP) (prim := prims7) (g := sortFA 57) (by kernel_rfl) run (hK _ ((Ext.refl _ _).put (.inr (by simp)) _) (AH.next_put _ _ _) ⟨.inr ⟨o, c, ex, _, ?_, get_put_same _ _, ?_, ?_, ?_, ?_, ?_⟩, ?_, ?_, ?_⟩)
    · rw [List.length_map, hs]; exact q1
    · rw [List.length_map, hs]; exact q3
    · rw [len]; exact q4
    · rw [len]; exact q5
    · rw [flat_hitL, List.length_map, hs, List.drop_append_of_le_length (by omega), List.drop_of_length_le (by omega), List.nil_append, List.take_append_of_le_length (by rw [hl2]; omega), List.take_of_length_le (by rw [hl2]; omega)]
    · rw [AH.next_put]; exact q7
    · intro x hx; obtain ⟨z, _, rfl⟩ := List.mem_map.1 hx; rfl
    · intro x hx; obtain ⟨z, _, rfl⟩ := List.mem_map.1 hx; rfl
    · intro x hx; obtain ⟨z, _, rfl⟩ := List.mem_map.1 hx; rfl

/-! Which is near. -/
def scF (M : List (List Int)) (V : List Int) (i : Nat) : Int := scoreZ 1 (M.getD i []) V
def hitsM (M : List (List Int)) (V : List Int) (n : Nat) : List (Int × Int) := (List.range n).map fun (i : Nat) => ((i : Int), scF M V i)
theorem hitsM_len (M : List (List Int)) (V : List Int) (n : Nat) : (hitsM M V n).length = n := by simp [hitsM]
theorem hitsM_succ (M : List (List Int)) (V : List Int) (n : Nat) : hitsM M V (n + 1) = hitsM M V n ++ [((n : Int), scF M V n)] := by simp [hitsM, List.range_succ]
def orderH (M : List (List Int)) (V : List Int) : List (Int × Int) := sortH (hitsM M V M.length)
def orderM (M : List (List Int)) (V : List Int) : List Int := (orderH M V).map fun x => x.1
theorem orderH_len (M : List (List Int)) (V : List Int) : (orderH M V).length = M.length := by unfold orderH; rw [sortH_len, hitsM_len]
theorem orderM_len (M : List (List Int)) (V : List Int) : (orderM M V).length = M.length := by unfold orderM; rw [List.length_map, orderH_len]
abbrev vals (Z : List Vq) : List (List Int) := Z.map fun z => z.2.2
theorem vals_at {Z : List Vq} {j : Nat} (h : j < Z.length) : (vals Z).getD j [] = Z[j].2.2 := by
  rw [List.getD_eq_getElem?_getD, List.getElem?_map, List.getElem?_eq_getElem h]; rfl
abbrev z2 : List AV := [.int .i64 0, .int .i64 0]
theorem fill_set (L : List (Int × Int)) (x : Int × Int) {n : Nat} (h : L.length < n) : (L.map hitL ++ List.replicate (n - L.length) z2).set L.length (hitL x) = (L ++ [x]).map hitL ++ List.replicate (n - (L.length + 1)) z2 := by
  obtain ⟨m, rfl⟩ : ∃ m, n = L.length + 1 + m := ⟨n - (L.length + 1), by omega⟩
  rw [show L.length + 1 + m - L.length = m + 1 by omega, show L.length + 1 + m - (L.length + 1) = m by omega, List.replicate_succ, List.set_append]
  simp
/-- Of vectors as they lie. -/
structure Vs (H : AH) (b : Nat) (s : AV) (Z : List Vq) : Prop where
  sl : Sl H 1 b s (vrow Z)
  el : ∀ z ∈ Z, VEl H z
  len : Z.length ≤ 1000
  short : ∀ z ∈ Z, z.2.2.length ≤ 1000
theorem Vs.mono0 {b : Nat} {s : AV} {Z : List Vq} (h : Vs H b s Z) (x : Ext [] H H') : Vs H' b s Z := ⟨h.sl.mono x (by simp), fun z q => (h.el z q).mono0 x, h.len, h.short⟩
theorem order_wp {b bv : Nat} {s v : AV} {Z : List Vq} {V : List Int} (h : Vs H b s Z) (hv : Is .i32 H bv v V) (hV : In32 V) (K : AV → AH → Prop)
    (hK : ∀ H' s' B, Ext [] H H' → H.next ≤ B → Os 3 .i64 H' B s' (orderM (vals Z) V) → K s' H') : CC.call 27 [s, v] H K := by
  refine m_means_Order_ok _ _ _ _ ?_
  unfold m_means_Order m_means_Ordert
  have hL := h.len
  obtain ⟨G1, e1, x1, n1, o1⟩ := own_make (P := PP) (H := H) hit_elO hit_byO (by omega) rfl rfl rfl (n := Z.length) (by omega) (by omega) .i64 .i64
  rw [vrow_len h.sl, outP_val, e1, outP_val]
  unfold m_means_Ordertth
  rw [vrow_len (h.mono0 x1).sl, outP_val]
  unfold m_means_Ordertthtb
  refine loopP_rule (I := fun t G => ∃ j : Nat, t = (v, .slice (some (H.next, 0)) Z.length Z.length true, s, .int .i64 Z.length, .int .i64 j) ∧ j ≤ Z.length ∧ Ext [] H G ∧ Own G 61 2 H.next (.slice (some (H.next, 0)) Z.length Z.length true) ((hitsM (vals Z) V j).map hitL ++ List.replicate (Z.length - j) z2))
    (μ := fun t _ => match t.2.2.2.2 with | .int _ z => Z.length - z.toNat | _ => 0) ?_ ⟨0, rfl, Nat.zero_le _, x1, by simpa [hitsM] using o1⟩
  rintro t G ⟨j, rfl, hj, x, o⟩ rec hrec
  unfold m_means_Ordertthtbl
  rw [w_lss, outP_val]
  by_cases cj : j < Z.length
  · obtain ⟨q, a1, _, a3⟩ := vrow_at (h.mono0 x).sl cj
    have he := (h.el _ (List.getElem_mem cj)).mono0 x
    have hs := h.short _ (List.getElem_mem cj)
    rw [decide_eq_true (by omega), condP_true, a1, outP_val, w_load_c, a3, vO_some, outP_val, outP_enter]
    refine score_wp he.is (Sl.mono hv x (by simp)) he.in32 hV (.inl (by omega)) 1 _ ?_
    have hfl := hitsM_len (vals Z) V j
    have hjX : j < ((hitsM (vals Z) V j).map hitL ++ List.replicate (Z.length - j) z2).length := by simp [hfl]; omega
    obtain ⟨p, b1, _, _, b4⟩ := Own.at o hjX .i64
    have hXj : ((hitsM (vals Z) V j).map hitL ++ List.replicate (Z.length - j) z2)[j] = z2 := by
      rw [List.getElem_append_right (by simp [hfl])]; simp
    obtain ⟨G2, c1, c2, c3, _, c5⟩ := b4 (hitL ((j : Int), scF (vals Z) V j)) rfl rfl rfl 2 0 (hitA ((j : Int), scF (vals Z) V j)) rfl (by simp [hitA, hitL, AV.parts]) (by omega) (by rw [hXj]; rfl)
    have esc : scoreZ 1 Z[j].2.2 V = scF (vals Z) V j := by unfold scF; rw [vals_at cj]
    have fs := fill_set (hitsM (vals Z) V j) ((j : Int), scF (vals Z) V j) (n := Z.length) (by rw [hfl]; exact cj)
    rw [hfl, ← hitsM_succ] at fs
    rw [fs] at c5
    have c1' : stN 2 G H.next (G.get H.next) p (.agg [.int .i64 (j : Int), .int .i64 (scF (vals Z) V j)]) = some (.skip G2) := c1
    rw [hit_buildO, outP_val, b1, outP_val, w_store_c, esc, c1', outP_skip, w_add_in (by omega) (by omega), outP_val]
    refine hrec _ _ ⟨j + 1, by rfl, by omega, (x.mono (m' := [H.next]) (by simp)).trans c2 |>.mono fun b hb hlt => (by simp at hb; omega), c5⟩ ?_
    show Z.length - ((j : Int) + 1).toNat < Z.length - (j : Int).toNat
    omega
  · rw [decide_eq_false (by omega), condP_false]
    obtain rfl : j = Z.length := by omega
    rw [Nat.sub_self, List.replicate_zero, List.append_nil] at o
    have hlm : (vals Z).length = Z.length := by simp
    unfold m_means_Orderttt
    rw [outP_enter]
    refine sortF_wp o ⟨_, _, _, _, rfl⟩ (by rw [hitsM_len]; omega) _ fun G2 x2 n2 o2 => ?_
    have eo : sortH (hitsM (vals Z) V Z.length) = orderH (vals Z) V := by unfold orderH; rw [hlm]
    rw [eo] at o2
    have lo : (orderH (vals Z) V).length = Z.length := by rw [orderH_len, hlm]
    have xx : Ext [] H G2 := (x.mono (m' := [H.next]) (by simp)).trans x2 |>.mono fun b hb hlt => (by simp at hb; omega)
    have hs2 : Hs G2 H.next (.slice (some (H.next, 0)) Z.length Z.length true) (orderH (vals Z) V) := o2.sl
    unfold m_means_Ordertttt m_means_Orderttttth
    have hln := Hs.len hs2
    rw [lo] at hln
    rw [hln, outP_val]
    unfold m_means_Orderttttthtb
    refine loopP_rule (I := fun t G => ∃ (j B : Nat) (r : AV), t = (r, .slice (some (H.next, 0)) Z.length Z.length true, .int .i64 Z.length, .int .i64 j) ∧ j ≤ Z.length ∧ Ext [] G2 G ∧ G2.next ≤ B ∧ Os 3 .i64 G B r (((orderH (vals Z) V).take j).map fun x => x.1))
      (μ := fun t _ => match t.2.2.2 with | .int _ z => Z.length - z.toNat | _ => 0) ?_ ⟨0, G2.next, _, rfl, Nat.zero_le _, Ext.refl _ _, Nat.le_refl _, os_nil _ _ _⟩
    rintro t G3 ⟨k, B, r, rfl, hk, x3, hB, o3⟩ rec3 hrec3
    unfold m_means_Orderttttthtbl
    rw [w_lss, outP_val]
    by_cases ck : k < Z.length
    · obtain ⟨q, a1, _, a3⟩ := Hs.at (hs2.mono x3 (by simp)) (j := k) (by rw [lo]; exact ck)
      rw [decide_eq_true (by omega), condP_true, a1, outP_val, w_load_n, a3, vO_some, outP_val, w_alloc_none, outP_val, w_store_c, get_new_same]
      generalize hh : (orderH (vals Z) V)[k]'(by rw [lo]; exact ck) = y
      unfold hitA hitL
      have x4 : Ext [] G3 ((G3.new (.cells 61 [.int .i64 0, .int .i64 0])).put G3.next (some (.cells 61 [.int .i64 y.1, .int .i64 y.2]))) := ((Ext.refl _ _).new _).put (.inl (Nat.le_refl _)) _
      have hp := get_put_same (H := G3.new (.cells 61 [.int .i64 0, .int .i64 0])) G3.next (some (.cells 61 [.int .i64 y.1, .int .i64 y.2]))
      rw [stN_two _ _ _ _ _ _ rfl rfl, outP_skip]
      generalize (G3.new (.cells 61 [.int .i64 0, .int .i64 0])).put G3.next (some (.cells 61 [.int .i64 y.1, .int .i64 y.2])) = G4 at *
      rw [w_fieldAddr_ptr, outP_val, w_load_c, hp, show ldV (some (ABlk.cells 61 [.int .i64 y.1, .int .i64 y.2])) (0 + 0) = some (.int .i64 y.1) from rfl, vO_some, outP_val]
      have n3 := x3.next
      have n4 := x4.next
      refine push_num int_elO (by omega) (Own.mono o3 x4 (by simp)) (by rw [List.length_map, List.length_take]; omega) _ _ fun G5 s5 B5 x5 hB5 o5 => ?_
      rw [w_add_in (by omega) (by omega), outP_val]
      refine hrec3 _ _ ⟨k + 1, B5, s5, by rfl, by omega, ((x3.trans x4).mono (m' := [B]) (by simp)).trans x5 |>.mono fun b hb hlt => (by simp at hb; omega), by omega, ?_⟩ ?_
      · rw [List.take_succ_eq_append_getElem (by rw [lo]; exact ck), List.map_append, hh]; exact o5
      · show Z.length - ((k : Int) + 1).toNat < Z.length - (k : Int).toNat
        omega
    · rw [decide_eq_false (by omega), condP_false]
      rw [List.take_of_length_le (by omega)] at o3
      have n2' := xx.next
      exact hK _ _ B (xx.trans x3) (by omega) o3
theorem head_at : ∀ (L : List Int) (h : 0 < L.length), L[0] = L.headD (-1)
  | _y :: _l, _ => rfl
theorem nearest_wp {b bv : Nat} {s v : AV} {Z : List Vq} {V : List Int} (h : Vs H b s Z) (hv : Is .i32 H bv v V) (hV : In32 V) (K : AV → AH → Prop)
    (hK : ∀ H', Ext [] H H' → K (.int .i64 ((orderM (vals Z) V).headD (-1))) H') : CC.call 29 [s, v] H K := by
  refine m_means_Nearest_ok _ _ _ _ ?_
  unfold m_means_Nearest
  have hL := h.len
  rw [vrow_len h.sl, outP_val, w_eql, outP_val]
  have ol := orderM_len (vals Z) V
  by_cases c : Z.length = 0
  · rw [decide_eq_true (by omega), condP_true]
    have := hK _ (Ext.refl _ _)
    rw [List.length_map, c] at ol
    rw [List.length_eq_zero_iff.1 ol] at this
    exact this
  · rw [decide_eq_false (by omega), condP_false, outP_enter]
    refine order_wp h hv hV _ fun H' s' B x hB o => ?_
    rw [List.length_map] at ol
    obtain ⟨q, a1, _, a3⟩ := o.is.at (j := 0) (by omega)
    have a1' : w_indexAddr (.sl 1) H' s' (.int .i64 0) = some (.val (.ptr (some (B, q))) H') := a1 H'
    rw [a1', outP_val, w_load_c, a3, vO_some, outP_val]
    rw [head_at _ (by omega)]; exact hK _ x
end
end Go.Ab
