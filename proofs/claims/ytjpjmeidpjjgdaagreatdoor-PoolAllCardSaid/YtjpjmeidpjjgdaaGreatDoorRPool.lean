/- The document's pool: what its functions do. -/
import Derived.Test.YtjpjmeidpjjgdaaGreatDoorPoolX
import Derived.Test.YtjpjmeidpjjgdaaGreatDoorMPoolR
namespace Go.Ab
noncomputable section
open Go.Proofs
set_option maxRecDepth 10000
variable {H H' : AH}

/-- At rp: who has each. -/
structure Rp (H : AH) (rp RB : Nat) (W : List Int) : Prop where
  ex : ∃ sw, H.get rp = some (.cells 81 [sw]) ∧ Is .i64 H RB sw W ∧ (W = [] ∨ Os 3 .i64 H RB sw W)
  lt : rp < H.next
  ne : RB ≠ rp
theorem Rp.mono {rp RB : Nat} {W : List Int} (h : Rp H rp RB W) {m : List Nat} (e : Ext m H H') (h1 : rp ∉ m) (h2 : RB ∈ m → W = []) : Rp H' rp RB W := by
  obtain ⟨sw, a1, a2, a3⟩ := h.ex
  refine ⟨⟨sw, e.get h.lt h1 a1, Sl.mono' a2 e fun q => by rw [h2 q]; rfl, ?_⟩, Nat.lt_of_lt_of_le h.lt e.next, h.ne⟩
  rcases a3 with r | r
  · exact .inl r
  · by_cases q : RB ∈ m
    · exact .inl (h2 q)
    · exact .inr (Own.mono r e q)
theorem Rp.low {rp RB : Nat} {W : List Int} (h : Rp H rp RB W) : W = [] ∨ RB < H.next := by
  obtain ⟨sw, _, a2, _⟩ := h.ex
  rcases Sl.low a2 with r | r
  · exact .inr r
  · exact .inl (List.map_eq_nil_iff.1 r)
theorem Rp.ld {rp RB : Nat} {W : List Int} (h : Rp H rp RB W) : ∃ sw, (∀ G : AH, G.get rp = H.get rp → w_load none G (.ptr (some (rp, 0))) = some (.val sw G)) ∧ H.get rp = some (.cells 81 [sw]) ∧ Is .i64 H RB sw W ∧ (W = [] ∨ Os 3 .i64 H RB sw W) := by
  obtain ⟨sw, a1, a2, a3⟩ := h.ex
  refine ⟨sw, fun G hG => ?_, a1, a2, a3⟩
  rw [w_load_c, hG, a1, ldV_cells, show ([sw] : List AV)[0]? = some sw from rfl, ob_some, (Sl.facts a2).2.1, vO_some]
theorem rpool_build : w_build PP 81 H [] = some (.val (.agg [.slice none 0 0 true]) H) := by kernel_rfl
theorem stN_lone (b : Nat) (e : TypeId) (x v : AV) (h1 : v.one = true) : stN 1 H b (some (.cells e [x])) 0 v = some (.skip (H.put b (some (.cells e [v])))) := stN_one b e [x] 0 v h1 (by simp)

/-! New. -/
theorem rNew_wp (n : Int) (K : AV → AH → Prop) (hK : ∀ H' rp RB, Ext [] H H' → H.next ≤ rp → H.next ≤ RB → Rp H' rp RB (List.replicate (min (max n 0) 1000).toNat nob) → K (.ptr (some (rp, 0))) H') :
    CC.call 13 [.int .i64 n] H K := by
  refine m_fieldfareref1_NewPool_ok _ _ _ ?_
  unfold m_fieldfareref1_NewPool m_fieldfareref1_NewPoolt
  rw [rpool_build, outP_val, w_box_c, parts_agg, show [AV.slice none 0 0 true].all AV.one = true from rfl, br_true, outP_val]
  have x1 : Ext [] H (H.new (.cells 81 [.slice none 0 0 true])) := (Ext.refl _ _).new _
  have gp := get_new_same H (.cells 81 [.slice none 0 0 true])
  have n1 : (H.new (.cells 81 [.slice none 0 0 true])).next = H.next + 1 := next_new _ _
  generalize H.new (.cells 81 [.slice none 0 0 true]) = G at *
  obtain ⟨N, hN⟩ : ∃ N : Nat, min (max n 0) 1000 = N := ⟨(min (max n 0) 1000).toNat, by omega⟩
  rw [hN, Int.toNat_natCast] at hK
  have hN2 : max (0 : Int) (min n 1000) = N := by omega
  unfold m_fieldfareref1_NewPooltth m_fieldfareref1_NewPooltthtb
  refine loopP_rule (I := fun t G' => ∃ (j B : Nat) (s : AV), t = (.int .i64 n, .ptr (some (H.next, 0)), .int .i64 j) ∧ j ≤ N ∧ Ext [] H G' ∧ H.next + 1 ≤ G'.next ∧ G'.get H.next = some (.cells 81 [s]) ∧ H.next + 1 ≤ B ∧ Os 3 .i64 G' B s (List.replicate j nob))
    (μ := fun t _ => match t.2.2 with | .int _ z => N - z.toNat | _ => 0) ?_ ⟨0, H.next + 1, nilS, rfl, Nat.zero_le _, x1, by omega, gp, Nat.le_refl _, os_nil _ _ _⟩
  rintro t G' ⟨j, B, s, rfl, hj, x2, n2, gp, hB, os⟩ rec hrec
  unfold m_fieldfareref1_NewPooltthtbl
  rw [w_min2_int, outP_val, w_max2_int, outP_val, hN2, w_lss, outP_val]
  by_cases cj : j < N
  · obtain ⟨f1, f2, f4, f3⟩ := Own.facts os
    rw [decide_eq_true (by omega), condP_true, w_nil_ptr, outP_val, w_fieldAddr_ptr, outP_val, w_load_c, gp, ldV_cells, show ([s] : List AV)[0 + 0]? = some s from rfl, ob_some, f2, vO_some, outP_val]
    refine push_num int_el' (by omega) os (by simp; omega) _ _ fun G2 s2 B2 x3 hB2 o2 => ?_
    have n3 := x3.next
    have gp2 : G2.get H.next = _ := x3.get (by omega) (by simp; omega) gp
    obtain ⟨g1, _, g4, _⟩ := Own.facts o2
    rw [w_nil_ptr, outP_val, w_fieldAddr_ptr, outP_val, w_store_c, gp2, Nat.add_zero, stN_lone _ _ _ _ g1, outP_skip, w_add_in (by omega) (by omega), outP_val]
    have x4 : Ext [H.next] G2 (G2.put H.next (some (.cells 81 [s2]))) := (Ext.refl _ _).put (.inr (by simp)) _
    refine hrec _ _ ⟨j + 1, B2, s2, by rfl, by omega, ?_, by rw [AH.next_put]; omega, get_put_same _ _, by omega, ?_⟩ ?_
    · refine (((x2.mono (m' := [B]) (by simp)).trans x3).mono (m' := []) fun b hb hlt => ?_).put (.inl (by omega)) _
      simp at hb; omega
    · rw [List.replicate_succ']
      exact Own.mono o2 x4 (by simp; omega)
    · show N - ((j : Int) + 1).toNat < N - (j : Int).toNat
      omega
  · rw [decide_eq_false (by omega), condP_false]
    obtain rfl : j = N := by omega
    exact hK _ _ B x2 (Nat.le_refl _) (by omega) ⟨⟨s, gp, os.is, .inr os⟩, by omega, by omega⟩

/-! Of, Free. -/
def idxTo (W : List Int) (o : Int) (j : Nat) : List Int := ((List.range j).filter fun i => decide (W.getD i 0 = o)).map fun i : Nat => (i : Int)
theorem idxTo_succ (W : List Int) (o : Int) (j : Nat) : idxTo W o (j + 1) = idxTo W o j ++ (if W.getD j 0 = o then [(j : Int)] else []) := by
  unfold idxTo
  rw [List.range_succ, List.filter_append, List.map_append]
  congr 1
  by_cases c : W.getD j 0 = o
  · rw [if_pos c]
    simp only [List.filter_cons, List.filter_nil, decide_eq_true c, if_true]
    rfl
  · rw [if_neg c]
    simp only [List.filter_cons, List.filter_nil, decide_eq_false c, Bool.false_eq_true, if_false]
    rfl
theorem idxTo_len (W : List Int) (o : Int) (j : Nat) : (idxTo W o j).length ≤ j := by
  unfold idxTo
  rw [List.length_map]
  exact Nat.le_trans (List.length_filter_le _ _) (by simp)
theorem rOf_wp {rp RB : Nat} {W : List Int} (h : Rp H rp RB W) (hW : W.length ≤ 1000) (o : Int) (K : AV → AH → Prop) (hK : ∀ H' s' B, Ext [] H H' → H.next ≤ B → Os 3 .i64 H' B s' (idxOf W o) → K s' H') :
    CC.call 19 [.ptr (some (rp, 0)), .int .i64 o] H K := by
  refine m_fieldfareref1_Pool_Of_ok _ _ _ _ ?_
  unfold m_fieldfareref1_Pool_Of m_fieldfareref1_Pool_Oft m_fieldfareref1_Pool_Oftth
  obtain ⟨sw, ld, gp, is, _⟩ := h.ld
  rw [w_nil_ptr, outP_val, w_fieldAddr_ptr, outP_val, Nat.add_zero, ld H rfl, outP_val, is.len ints_sl, outP_val]
  unfold m_fieldfareref1_Pool_Oftthtb
  refine loopP_rule (I := fun t G => ∃ (j B : Nat) (s : AV), t = (.ptr (some (rp, 0)), .int .i64 o, s, .int .i64 W.length, .int .i64 j) ∧ j ≤ W.length ∧ Ext [] H G ∧ H.next ≤ B ∧ Os 3 .i64 G B s (idxTo W o j))
    (μ := fun t _ => match t.2.2.2.2 with | .int _ z => W.length - z.toNat | _ => 0) ?_ ⟨0, H.next, nilS, rfl, Nat.zero_le _, Ext.refl _ _, Nat.le_refl _, os_nil _ _ _⟩
  rintro t G ⟨j, B, s, rfl, hj, x1, hB, os⟩ rec hrec
  unfold m_fieldfareref1_Pool_Oftthtbl
  rw [w_lss, outP_val]
  have dec : W.length - ((j : Int) + 1).toNat < W.length - (j : Int).toNat ∨ ¬ j < W.length := by omega
  by_cases cj : j < W.length
  · have isG : Is .i64 G RB sw W := Sl.mono is x1 (by simp)
    obtain ⟨q, a1, _, a3⟩ := isG.at cj
    rw [decide_eq_true (by omega), condP_true, w_nil_ptr, outP_val, w_fieldAddr_ptr, outP_val, Nat.add_zero, ld G (x1.same _ h.lt (by simp)), outP_val, a1, outP_val, w_load_c, a3, vO_some, outP_val, w_eql, outP_val]
    have es := idxTo_succ W o j
    rw [getD_at cj] at es
    by_cases c : W[j] = o
    · rw [decide_eq_true c, condP_true]
      rw [if_pos c] at es
      have hlen := idxTo_len W o j
      refine push_num int_el' (by omega) os (by omega) _ _ fun G2 s2 B2 x2 hB2 o2 => ?_
      rw [← es] at o2
      have := x1.next
      rw [w_add_in (by omega) (by omega), outP_val]
      refine hrec _ _ ⟨j + 1, B2, s2, by rfl, by omega, ((x1.mono (m' := [B]) (by simp)).trans x2).mono fun b hb hlt => by simp at hb; omega, by omega, o2⟩ (dec.resolve_right (by omega))
    · rw [decide_eq_false c, condP_false, w_add_in (by omega) (by omega), outP_val]
      rw [if_neg c, List.append_nil] at es
      rw [← es] at os
      exact hrec _ _ ⟨j + 1, B, s, by rfl, by omega, x1, hB, os⟩ (dec.resolve_right (by omega))
  · rw [decide_eq_false (by omega), condP_false]
    obtain rfl : j = W.length := by omega
    exact hK _ _ _ x1 hB os
theorem rFree_wp {rp RB : Nat} {W : List Int} (h : Rp H rp RB W) (hW : W.length ≤ 1000) (K : AV → AH → Prop) (hK : ∀ H', Ext [] H H' → K (.int .i64 ((idxOf W nob).length : Int)) H') :
    CC.call 17 [.ptr (some (rp, 0))] H K := by
  refine m_fieldfareref1_Pool_Free_ok _ _ _ ?_
  unfold m_fieldfareref1_Pool_Free
  rw [outP_enter]
  refine rOf_wp h hW nob _ fun H1 s1 B1 x1 hB1 o1 => ?_
  rw [o1.is.len ints_sl, outP_val]
  exact hK _ x1

/-! Size. -/
theorem setAllW_snoc (W L : List Int) (x v : Int) : setAllW W (L ++ [x]) v = (setAllW W L v).set x.toNat v := by
  unfold setAllW
  rw [List.foldl_append]; rfl
theorem idx_len (W : List Int) (o : Int) : (idxOf W o).length ≤ W.length := idxTo_len W o W.length
/-- One place of it is set. -/
theorem Rp.set {rp RB : Nat} {W : List Int} (h : Rp H rp RB W) {i : Nat} (hi : i < W.length) : ∃ sw p, (∀ G : AH, G.get rp = H.get rp → w_load none G (.ptr (some (rp, 0))) = some (.val sw G)) ∧ (∀ G : AH, w_indexAddr (.sl 1) G sw (.int .i64 i) = some (.val (.ptr (some (RB, p))) G)) ∧
    ∀ x : Int, ∃ H', stN 1 H RB (H.get RB) p (.int .i64 x) = some (.skip H') ∧ Ext [RB] H H' ∧ H'.next = H.next ∧ Rp H' rp RB (W.set i x) := by
  obtain ⟨sw, ld, gp, is, os⟩ := h.ld
  have os := os.resolve_left (fun q => by rw [q] at hi; simp at hi)
  obtain ⟨p, a1, a2, a3, a4⟩ := os.at hi
  refine ⟨sw, p, ld, a1, fun x => ?_⟩
  obtain ⟨G, b1, b2, b3, b4⟩ := a4 x
  exact ⟨G, b1, b2, b3, ⟨⟨sw, b2.get h.lt (by simp; exact fun q => h.ne q.symm) gp, b4.is, .inr b4⟩, by rw [b3]; exact h.lt, h.ne⟩⟩
theorem rSize_wp {rp RB : Nat} {W : List Int} {o b : Int} (h : Rp H rp RB W) (hW : W.length ≤ 1000) (hb : b ≤ 9223372036854775807) (K : AV → AH → Prop)
    (hK : ∀ H', (∀ m : List Nat, (W = [] ∨ RB ∈ m) → Ext m H H') → Rp H' rp RB (rSize W o b).1 → K (.int .i64 (rSize W o b).2) H') : CC.call 15 [.ptr (some (rp, 0)), .int .i64 o, .int .i64 b] H K := by
  refine m_fieldfareref1_Pool_Size_ok _ _ _ _ _ ?_
  unfold m_fieldfareref1_Pool_Size m_fieldfareref1_Pool_Sizet
  rw [w_lss, outP_val]
  by_cases c1 : b < 0
  · rw [decide_eq_true c1, condP_true]
    have e : rSize W o b = (W, 2) := by unfold rSize; rw [if_pos c1]
    have := hK H (fun m _ => Ext.refl _ _)
    rw [e] at this
    exact this h
  rw [decide_eq_false c1, condP_false]
  unfold m_fieldfareref1_Pool_Sizett
  rw [outP_enter]
  refine rOf_wp h hW o _ fun H1 has Bh x1 hBh oh => ?_
  have hl := idx_len W o
  have n1 := x1.next
  have h1 := h.mono x1 (by simp) (by simp)
  have lowR := h.low
  have neB : W = [] ∨ Bh ≠ RB := by rcases lowR with r | r; exact .inl r; exact .inr (by omega)
  have neP : Bh ≠ rp := by have := h.lt; omega
  unfold m_fieldfareref1_Pool_Sizettt
  rw [oh.is.len ints_sl, outP_val, w_gtr, outP_val]
  -- what comes behind
  have go : ∀ G : AH, Ext [] H1 G → ¬ (((idxOf W o).length : Int) < b ∧ ((idxOf W nob).length : Int) < b - ((idxOf W o).length : Int)) → m_fieldfareref1_Pool_Sizetttth K (.ptr (some (rp, 0))) (.int .i64 o) (.int .i64 b) has G := by
    intro G xG c2
    have e : rSize W o b = (setAllW (setAllW W ((idxOf W o).drop b.toNat) nob) ((idxOf (setAllW W ((idxOf W o).drop b.toNat) nob) nob).take (b - ((idxOf W o).length : Int)).toNat) o, 0) := by unfold rSize; rw [if_neg c1, if_neg c2]
    rw [e] at hK
    have hG := h1.mono xG (by simp) (by simp)
    have ohG := Own.mono oh xG (by simp)
    have lh : ∀ G' : AH, w_len PP 33 G' has = some (.val (.int .i64 ((idxOf W o).length : Int)) G') := oh.is.len ints_sl
    unfold m_fieldfareref1_Pool_Sizetttth m_fieldfareref1_Pool_Sizetttthtb
    obtain ⟨k, hk⟩ : ∃ k : Nat, b = k := ⟨_, (Int.toNat_of_nonneg (by omega)).symm⟩
    subst hk
    rw [Int.toNat_natCast] at hK
    refine loopP_rule (I := fun t G' => ∃ i : Nat, t = (.ptr (some (rp, 0)), .int .i64 o, .int .i64 k, has, .int .i64 ((k + i : Nat) : Int)) ∧ (i = 0 ∨ k + i ≤ (idxOf W o).length) ∧ (∀ m : List Nat, (W = [] ∨ RB ∈ m) → Ext m G G') ∧ Rp G' rp RB (setAllW W (((idxOf W o).drop k).take i) nob))
      (μ := fun t _ => match t.2.2.2.2 with | .int _ z => (idxOf W o).length - z.toNat | _ => 0) ?_ ⟨0, by rfl, .inl rfl, fun m _ => Ext.refl _ _, by rw [List.take_zero]; exact hG⟩
    rintro t G1 ⟨i, rfl, hi, y1, r1⟩ rec hrec
    unfold m_fieldfareref1_Pool_Sizetttthtbl
    rw [lh, outP_val, w_lss, outP_val]
    by_cases ci : k + i < (idxOf W o).length
    · have hWne : W ≠ [] := fun q => by have := congrArg List.length q; simp only [List.length_nil] at this; omega
      have nb := neB.resolve_left hWne
      have oh1 : Is .i64 G1 Bh has (idxOf W o) := Sl.mono (Own.sl ohG) (y1 [RB] (.inr (by simp))) (by simp; exact nb)
      obtain ⟨q, a1, _, a3⟩ := oh1.at (j := k + i) ci
      have hm := mem_idx.1 (List.getElem_mem ci)
      obtain ⟨z, hz⟩ : ∃ z : Nat, (idxOf W o)[k + i] = z := ⟨_, (Int.toNat_of_nonneg hm.1).symm⟩
      rw [hz] at a3 hm
      obtain ⟨sw, p, ld, b1, b2⟩ := r1.set (i := z) (by rw [setAllW_len]; omega)
      obtain ⟨G2, d1, d2, d3, r2⟩ := b2 nob
      rw [decide_eq_true (by omega), condP_true, w_nil_ptr, outP_val, w_fieldAddr_ptr, outP_val, Nat.add_zero, ld G1 rfl, outP_val, a1, outP_val, w_load_c, a3, vO_some, outP_val, b1, outP_val, w_store_c, show (AV.int .i64 (-9223372036854775808)) = AV.int .i64 nob from rfl, d1, outP_skip, w_add_in (by omega) (by omega), outP_val]
      refine hrec _ _ ⟨i + 1, by rfl, .inr (by omega), fun m hm => (y1 m hm).trans (d2.mono fun b hb _ => ?_), ?_⟩ ?_
      · simp at hb; subst hb
        exact hm.resolve_left hWne
      · rw [List.take_succ_eq_append_getElem (by rw [List.length_drop]; omega), List.getElem_drop, hz, setAllW_snoc, Int.toNat_natCast]
        exact r2
      · show (idxOf W o).length - (((k + i : Nat) : Int) + 1).toNat < (idxOf W o).length - ((k + i : Nat) : Int).toNat
        omega
    · rw [decide_eq_false (by omega), condP_false]
      have et : ((idxOf W o).drop k).take i = (idxOf W o).drop k := List.take_of_length_le (by rw [List.length_drop]; omega)
      rw [et] at r1
      have hl1 : (setAllW W ((idxOf W o).drop k) nob).length = W.length := setAllW_len _ _ _
      have same : ((idxOf W o).length : Int) < k → setAllW W ((idxOf W o).drop k) nob = W := fun q => by rw [List.drop_eq_nil_of_le (by omega)]; rfl
      generalize setAllW W ((idxOf W o).drop k) nob = V at *
      unfold m_fieldfareref1_Pool_Sizettttt
      rw [outP_enter]
      refine rOf_wp r1 (by omega) nob _ fun G3 fr Bf x3 hBf of => ?_
      have r3 := r1.mono x3 (by simp) (by simp)
      have low3 := r1.low
      have yn := (y1 [RB] (.inr (by simp))).next
      have neF : V = [] ∨ Bf ≠ RB := by rcases low3 with r | r; exact .inl r; exact .inr (by omega)
      unfold m_fieldfareref1_Pool_Sizetttttth m_fieldfareref1_Pool_Sizetttttthtb
      have hfl := idx_len V nob
      refine loopP_rule (I := fun t G' => ∃ i : Nat, t = (.ptr (some (rp, 0)), .int .i64 o, .int .i64 k, has, fr, .int .i64 i) ∧ (i = 0 ∨ (i : Int) ≤ (k : Int) - ((idxOf W o).length : Int)) ∧ (∀ m : List Nat, (W = [] ∨ RB ∈ m) → Ext m G3 G') ∧ Rp G' rp RB (setAllW V ((idxOf V nob).take i) o))
        (μ := fun t _ => match t.2.2.2.2.2 with | .int _ z => k - z.toNat | _ => 0) ?_ ⟨0, by rfl, .inl rfl, fun m _ => Ext.refl _ _, by rw [List.take_zero]; exact r3⟩
      rintro t G4 ⟨i, rfl, hi, y4, r4⟩ rec hrec
      unfold m_fieldfareref1_Pool_Sizetttttthtbl
      rw [lh, outP_val, w_sub_in (by omega) (by omega), outP_val, w_lss, outP_val]
      by_cases ci : (i : Int) < (k : Int) - ((idxOf W o).length : Int)
      · have eV : V = W := same (by omega)
        have ci' : i < (idxOf V nob).length := by rw [eV]; omega
        have hVne : V ≠ [] := fun q => by have := congrArg List.length q; simp only [List.length_nil] at this; omega
        have hWne : W ≠ [] := eV ▸ hVne
        have nb := neF.resolve_left hVne
        have of4 : Is .i64 G4 Bf fr (idxOf V nob) := Sl.mono of.is (y4 [RB] (.inr (by simp))) (by simp; exact nb)
        obtain ⟨q, a1, _, a3⟩ := of4.at ci'
        have hm := mem_idx.1 (List.getElem_mem ci')
        obtain ⟨z, hz⟩ : ∃ z : Nat, (idxOf V nob)[i] = z := ⟨_, (Int.toNat_of_nonneg hm.1).symm⟩
        rw [hz] at a3 hm
        obtain ⟨sw, p, ld, b1, b2⟩ := r4.set (i := z) (by rw [setAllW_len]; omega)
        obtain ⟨G5, d1, d2, d3, r5⟩ := b2 o
        rw [decide_eq_true ci, condP_true, w_nil_ptr, outP_val, w_fieldAddr_ptr, outP_val, Nat.add_zero, ld G4 rfl, outP_val, a1, outP_val, w_load_c, a3, vO_some, outP_val, b1, outP_val, w_store_c, d1, outP_skip, w_add_in (by omega) (by omega), outP_val]
        refine hrec _ _ ⟨i + 1, by rfl, .inr (by omega), fun m hm => (y4 m hm).trans (d2.mono fun b hb _ => ?_), ?_⟩ ?_
        · simp at hb; subst hb
          exact hm.resolve_left hWne
        · rw [List.take_succ_eq_append_getElem ci', hz, setAllW_snoc, Int.toNat_natCast]
          exact r5
        · show k - ((i : Int) + 1).toNat < k - (i : Int).toNat
          omega
      · rw [decide_eq_false ci, condP_false]
        have ei : i = ((k : Int) - ((idxOf W o).length : Int)).toNat := by omega
        rw [ei] at r4
        exact hK _ (fun m hm => (((x1.mono (by simp)).trans (xG.mono (by simp))).trans (y1 m hm)).trans ((x3.mono (by simp)).trans (y4 m hm))) r4
  have hn := idx_len W nob
  by_cases c3 : ((idxOf W o).length : Int) < b
  · have d3 := decide_eq_true c3
    rw [boolIs_bool, beq_tt, d3, guardP_true, outP_val, guardP_true, outP_val, guardP_true, oh.is.len ints_sl, outP_val, guardP_true, w_sub_in (by omega) (by omega), outP_val, guardP_true, outP_val, guardP_true, outP_enter]
    refine rFree_wp h1 hW _ fun G xG => ?_
    rw [guardP_true, w_gtr, outP_val, w_pick_b, outP_val, if_pos rfl]
    by_cases c4 : ((idxOf W nob).length : Int) < b - ((idxOf W o).length : Int)
    · rw [decide_eq_true c4, condP_true]
      have e : rSize W o b = (W, 6) := by unfold rSize; rw [if_neg c1, if_pos ⟨c3, c4⟩]
      have := hK G (fun m _ => (x1.trans xG).mono (by simp))
      rw [e] at this
      exact this (h1.mono xG (by simp) (by simp))
    · rw [decide_eq_false c4, condP_false]
      exact go G xG fun q => c4 q.2
  · have d3 := decide_eq_false c3
    repeat (first | rw [outP_val] | rw [guardP_true] | rw [guardP_false] | rw [condP_true] | rw [d3] | rw [condP_false] | rw [boolIs_bool] | rw [boolIs_undef] | rw [beq_tt] | rw [beq_ff] | rw [Bool.not_true] | rw [Bool.not_false] | rw [outP_skip] | rw [w_pick_b] | rw [if_pos rfl] | rw [if_neg Bool.false_ne_true] | rw [w_fieldAddr_ptr] | rw [w_nil_ptr] | rw [Nat.zero_add] | rw [w_load_c] | rw [w_load_n] | rw [vO_some] | rw [w_store_c] | rw [w_not] | rw [w_lss] | rw [w_leq] | rw [w_gtr] | rw [w_geq] | rw [w_eql] | rw [w_neq] | rw [w_cint] | rw [w_min2_int] | rw [w_max2_int] | rw [w_add_in (by omega) (by omega)] | rw [w_sub_in (by omega) (by omega)] | rw [w_mul_in (by omega) (by omega)] | rw [outP_enter])
    exact go H1 (Ext.refl _ _) fun q => c3 q.1
end
end Go.Ab
