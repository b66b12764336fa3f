/- The document's MakeBook and MayVec; are two books the same? -/
import Derived.Test.YtoafnnphjbdedaaGreatDoorMake
namespace Go.Ab
noncomputable section
open Go.Proofs
set_option maxRecDepth 10000
variable {H H' : AH}

theorem rMay_wp {b : Nat} {s : AV} {V : List Int} (h : Is .i32 H b s V) (dim : Int) (K : AV → AH → Prop) (hK : K (.bool (mayB V dim)) H) : CC.call 43 [s, .int .i64 dim] H K := by
  refine m_fieldfareref1_MayVec_ok _ _ _ _ ?_
  unfold m_fieldfareref1_MayVec m_fieldfareref1_MayVect
  have l1 := h.len vec_sl
  have key := mayB_iff V dim
  have no : ¬ mayB V dim = true → mayB V dim = false := fun q => by cases r : mayB V dim with | true => exact absurd r q | false => rfl
  rw [w_lss, outP_val, boolIs_bool, beq_ff]
  by_cases c1 : dim < 1
  · have e := no fun q => by have := key.1 q; omega
    rw [e] at hK
    rw [decide_eq_true c1, Bool.not_true, guardP_false, guardP_false, w_pick_b, outP_val, if_pos rfl, boolIs_bool, beq_ff, Bool.not_true, guardP_false, guardP_false, guardP_false, guardP_false, w_pick_b, outP_val, if_pos rfl, condP_true]
    exact hK
  · rw [decide_eq_false c1, Bool.not_false, guardP_true, outP_val, guardP_true, w_gtr, outP_val, w_pick_b, outP_val, if_neg (by simp), boolIs_bool, beq_ff]
    by_cases c2 : 8 < dim
    · have e := no fun q => by have := key.1 q; omega
      rw [e] at hK
      rw [decide_eq_true c2, Bool.not_true, guardP_false, guardP_false, guardP_false, guardP_false, w_pick_b, outP_val, if_pos rfl, condP_true]
      exact hK
    · rw [decide_eq_false c2, Bool.not_false, guardP_true, outP_val, guardP_true, l1, outP_val, guardP_true, outP_val, guardP_true, w_neq, outP_val, w_pick_b, outP_val, if_neg (by simp)]
      by_cases c3 : (V.length : Int) = dim
      · rw [decide_eq_true c3, Bool.not_true, condP_false]
        unfold m_fieldfareref1_MayVectth m_fieldfareref1_MayVectthtb
        rw [l1, outP_val]
        refine loopP_rule (I := fun t G => ∃ j : Nat, t = (s, .int .i64 V.length, .int .i64 j) ∧ j ≤ V.length ∧ G = H ∧ ∀ x ∈ V.take j, -1048576 ≤ x ∧ x ≤ 1048576) (μ := fun t _ => match t.2.2 with | .int _ z => V.length - z.toNat | _ => 0) ?_ ⟨0, rfl, Nat.zero_le _, rfl, fun x hx => by simp at hx⟩
        rintro t G ⟨j, rfl, hj, rfl, hall⟩ rec hrec
        unfold m_fieldfareref1_MayVectthtbl
        rw [w_lss, outP_val]
        by_cases cj : j < V.length
        · obtain ⟨o, a1, a2, a3⟩ := h.at cj
          have bad : ¬ (-1048576 ≤ V[j] ∧ V[j] ≤ 1048576) → mayB V dim = false := fun q => no fun r => q ((key.1 r).2.2.2 _ (List.getElem_mem cj))
          rw [decide_eq_true (by omega), condP_true, a1, outP_val, w_load_c, a3, vO_some, outP_val, w_lss, outP_val, boolIs_bool, beq_ff]
          by_cases c4 : V[j] < -1048576
          · rw [bad (by omega)] at hK
            rw [decide_eq_true c4, Bool.not_true, guardP_false, guardP_false, guardP_false, guardP_false, guardP_false, w_pick_b, outP_val, if_pos rfl, condP_true]
            exact hK
          · rw [decide_eq_false c4, Bool.not_false, guardP_true, outP_val, guardP_true, outP_val, guardP_true, a1, outP_val, guardP_true, w_load_c, a3, vO_some, outP_val, guardP_true, w_gtr, outP_val, w_pick_b, outP_val, if_neg (by simp)]
            by_cases c5 : 1048576 < V[j]
            · rw [bad (by omega)] at hK
              rw [decide_eq_true c5, condP_true]; exact hK
            · rw [decide_eq_false c5, condP_false, w_add_in (by omega) (by omega), outP_val]
              refine hrec _ _ ⟨j + 1, by rfl, by omega, rfl, fun x hx => ?_⟩ ?_
              · rw [List.take_succ_eq_append_getElem cj, List.mem_append] at hx
                rcases hx with hx | hx
                · exact hall x hx
                · simp at hx; omega
              · show V.length - ((j : Int) + 1).toNat < V.length - (j : Int).toNat
                omega
        · rw [decide_eq_false (by omega), condP_false]
          rw [List.take_of_length_le (by omega)] at hall
          rw [key.2 ⟨by omega, by omega, c3, hall⟩] at hK
          exact hK
      · have e := no fun q => by have := key.1 q; omega
        rw [e] at hK
        rw [decide_eq_false c3, Bool.not_false, condP_true]
        exact hK

theorem push_at {e by_ : Nat} {k : IntKind} (he : elT PP e = some (1, [.int k 0])) (hby : by_ ≤ 8) {B b : Nat} {s : AV} {L : List Int} (ho : Os e k H B s L) (hL : L.length ≤ 100000) (hb : b < H.next) (hne : B ≠ b) (x : Int) :
    ∃ H', w_buildSlice PP e 1 H [(0, .int k x)] (some b) = some (.val (.slice (some (b, 0)) 1 1 true) H') ∧ Ext [b] H H' ∧ H'.next = H.next ∧
      ∃ s' H2 B', w_append e 1 by_ H' s (.slice (some (b, 0)) 1 1 true) none = some (.val s' H2) ∧ Ext [b, B] H H2 ∧ (B' = B ∨ H.next ≤ B') ∧ Os e k H2 B' s' (L ++ [x]) := by
  have x1 : Ext [b] H (H.put b (some (.cells e [.int k x]))) := (Ext.refl _ _).put (.inr (by simp)) _
  have o1 : Os e k (H.put b (some (.cells e [.int k x]))) b (.slice (some (b, 0)) 1 1 true) [x] :=
    ⟨.inr ⟨0, 1, true, _, rfl, get_put_same _ _, Nat.le_refl _, Nat.le_refl _, fun q => (by cases q), rfl, by rw [AH.next_put]; exact hb⟩, by simp, by simp [AV.known], by simp [AV.one]⟩
  obtain ⟨s', H2, B', e1, e2, e3, e4⟩ := (Own.mono ho x1 (by simp; exact hne)).append (by_ := by_) (Own.sl o1) (by omega) (by
    simp only [List.length_map, List.length_singleton]
    have : (2 * (L.length + 1) + 1024) * by_ ≤ (2 * (L.length + 1) + 1024) * 8 := Nat.mul_le_mul_left _ hby
    omega)
  rw [AH.next_put] at e3
  refine ⟨_, bs_num_at he x b, x1, AH.next_put _ _ _, s', H2, B', e1, (x1.mono (by simp)).trans (e2.mono (by simp)), e3, ?_⟩
  show Own _ _ _ _ _ _
  rw [show nums k (L ++ [x]) = nums k L ++ nums k [x] from List.map_append]; exact e4

def lhF (Z : List (List Int)) (i : Nat) : Int × Int := lhS Z i Z.length
theorem lhS_append (Z W : List (List Int)) (i : Nat) : ∀ k, k ≤ Z.length → lhS (Z ++ W) i k = lhS Z i k
  | 0, _ => rfl
  | k + 1, hk => by
    have ih := lhS_append Z W i k (by omega)
    have e : (Z ++ W).getD k [] = Z.getD k [] := by rw [List.getD_eq_getElem?_getD, List.getD_eq_getElem?_getD, List.getElem?_append_left (by omega)]
    unfold lhS
    rw [e, ih]
theorem lhF_snoc (Z : List (List Int)) (V : List Int) (i : Nat) : lhF (Z ++ [V]) i = (min (if Z.length = 0 then V.getD i 0 else (lhF Z i).1) (V.getD i 0), max (if Z.length = 0 then V.getD i 0 else (lhF Z i).2) (V.getD i 0)) := by
  unfold lhF
  rw [List.length_append, List.length_singleton]
  have e : (Z ++ [V]).getD Z.length [] = V := by rw [List.getD_eq_getElem?_getD, List.getElem?_append_right (Nat.le_refl _), Nat.sub_self]; rfl
  have := lhS_append Z [V] i Z.length (Nat.le_refl _)
  show (_, _) = (_, _)
  rw [e, this]
theorem goodL_snoc (Y : List Vq) (dim : Int) (j : Nat) (hj : j < Y.length) : goodL (Y.take (j + 1)) dim = goodL (Y.take j) dim ++ (if mayB Y[j].2.2 dim = true then [Y[j].2.2] else []) := by
  unfold goodL
  rw [goodV_snoc _ _ _ hj, List.map_append]
  cases mayB Y[j].2.2 dim <;> rfl
theorem lhF_in {Y : List Vq} {dim : Int} (i : Nat) : -1048576 ≤ (lhF (goodL Y dim) i).1 ∧ (lhF (goodL Y dim) i).1 ≤ (lhF (goodL Y dim) i).2 ∧ (lhF (goodL Y dim) i).2 ≤ 1048576 := lhS_in (fun V q => (goodL_in Y dim V q).2) i _
theorem rbook_zero : w_build PP 67 H [] = some (.val (.agg [.slice none 0 0 true, .slice none 0 0 true]) H) := by kernel_rfl

theorem rMake_wp {b : Nat} {s : AV} {Y : List Vq} (h : Sl H 1 b s (vrow Y)) (hL : Y.length ≤ 1000) (hy : ∀ y ∈ Y, VEl H y) (dim : Int) (K : AV → AH → Prop)
    (hK : ∀ H' lo st bl bs, Ext [] H H' → H.next ≤ bl → H.next ≤ bs → Bk H' lo st bl bs (makeLo Y dim) (makeSt Y dim) → K (.agg [lo, st]) H') : CC.call 35 [.int .i64 dim, s] H K := by
  refine m_fieldfareref1_MakeBook_ok _ _ _ _ ?_
  unfold m_fieldfareref1_MakeBook m_fieldfareref1_MakeBookt
  rw [w_alloc_none, outP_val]
  have x1 : Ext [] H (H.new (.cells 67 [.slice none 0 0 true, .slice none 0 0 true])) := (Ext.refl _ _).new _
  have hp1 := get_new_same H (.cells 67 [.slice none 0 0 true, .slice none 0 0 true])
  have n1 : (H.new (.cells 67 [.slice none 0 0 true, .slice none 0 0 true])).next = H.next + 1 := next_new _ _
  generalize H.new (.cells 67 [.slice none 0 0 true, .slice none 0 0 true]) = G0 at *
  rw [w_lss, outP_val, boolIs_bool, beq_ff]
  have bad : ¬ (1 ≤ dim ∧ dim ≤ 8) → outP CC G0 (w_build PP 67 G0 []) (fun v6 H6 => outP CC H6 (w_store 2 H6 (.ptr (some (H.next, 0))) v6) fun _ H7 => endP (resR (partF (some (some 2))) H7 (.ptr (some (H.next, 0))) (some [])) K H7) := by
    intro q
    rw [rbook_zero, outP_val, w_store_c, hp1, stN_two _ _ _ _ _ _ rfl rfl, outP_skip, endP_two (get_put_same _ _) rfl rfl]
    have e1 : makeLo Y dim = [] := by unfold makeLo makeN; rw [if_neg q]; rfl
    have e2 : makeSt Y dim = [] := by unfold makeSt makeN; rw [if_neg q]; rfl
    refine hK _ _ _ (H.next + 1) (H.next + 1) (x1.put (.inl (by omega)) _) (by omega) (by omega) ?_
    rw [e1, e2]
    exact ⟨⟨.inl ⟨.inl rfl, rfl⟩⟩, ⟨.inl ⟨.inl rfl, rfl⟩⟩, by simp, by simp, fun _ hx => (List.not_mem_nil hx).elim, fun _ hx => (List.not_mem_nil hx).elim⟩
  by_cases c1 : dim < 1
  · rw [decide_eq_true c1, Bool.not_true, guardP_false, guardP_false, w_pick_b, outP_val, if_pos rfl, condP_true]
    exact bad (by omega)
  rw [decide_eq_false c1, Bool.not_false, guardP_true, outP_val, guardP_true, w_gtr, outP_val, w_pick_b, outP_val, if_neg (by simp)]
  by_cases c2 : 8 < dim
  · rw [decide_eq_true c2, condP_true]
    exact bad (by omega)
  rw [decide_eq_false c2, condP_false]
  obtain ⟨d, hd⟩ : ∃ d : Nat, dim = d := ⟨dim.toNat, by omega⟩
  subst hd
  have hN : makeN (d : Int) = d := by unfold makeN; rw [if_pos (by omega)]; rfl
  unfold m_fieldfareref1_MakeBooktt
  rw [rbook_zero, outP_val, w_alloc_none, outP_val, w_store_c, get_new_same, stN_two _ _ _ _ _ _ rfl rfl, outP_skip]
  have x2 : Ext [] G0 ((G0.new (.cells 67 [.slice none 0 0 true, .slice none 0 0 true])).put G0.next (some (.cells 67 [.slice none 0 0 true, .slice none 0 0 true]))) := ((Ext.refl _ _).new _).put (.inl (Nat.le_refl _)) _
  have gb := get_put_same (H := G0.new (.cells 67 [.slice none 0 0 true, .slice none 0 0 true])) G0.next (some (.cells 67 [.slice none 0 0 true, .slice none 0 0 true]))
  have n2 : ((G0.new (.cells 67 [.slice none 0 0 true, .slice none 0 0 true])).put G0.next (some (.cells 67 [.slice none 0 0 true, .slice none 0 0 true]))).next = H.next + 2 := by rw [AH.next_put, next_new]; omega
  rw [n1] at x2 gb n2 ⊢
  generalize (G0.new (.cells 67 [.slice none 0 0 true, .slice none 0 0 true])).put (H.next + 1) (some (.cells 67 [.slice none 0 0 true, .slice none 0 0 true])) = G1 at *
  have x12 := x1.trans x2
  have hp1' : G1.get H.next = _ := x2.get (by omega) (by simp) hp1
  unfold m_fieldfareref1_MakeBookttth m_fieldfareref1_MakeBookttthtb
  refine loopP_rule (I := fun t G => ∃ (j Bl Bs : Nat) (lo st : AV), t = (.int .i64 d, s, .ptr (some (H.next, 0)), .ptr (some (H.next + 1, 0)), .int .i64 j) ∧ j ≤ d ∧ Ext [H.next + 1] G1 G ∧ G.get (H.next + 1) = some (.cells 67 [lo, st]) ∧ H.next + 2 ≤ Bl ∧ H.next + 2 ≤ Bs ∧
      Os 21 .i32 G Bl lo ((List.range j).map (lowF (goodL Y d))) ∧ Os 21 .i32 G Bs st ((List.range j).map (stpF (goodL Y d))) ∧ (j = 0 → lo = .slice none 0 0 true ∧ st = .slice none 0 0 true) ∧ (0 < j → Bl ≠ Bs))
    (μ := fun t _ => match t.2.2.2.2 with | .int _ z => d - z.toNat | _ => 0) ?_ ⟨0, H.next + 2, H.next + 2, _, _, rfl, Nat.zero_le _, Ext.refl _ _, gb, Nat.le_refl _, Nat.le_refl _, os_nil _ _ _, os_nil _ _ _, fun _ => ⟨rfl, rfl⟩, fun q => absurd q (by omega)⟩
  rintro t G ⟨j, Bl, Bs, lo, st, rfl, hj, x3, hb, hBl, hBs, ol, os, hnil, hne⟩ rec hrec
  have n3 := x3.next
  unfold m_fieldfareref1_MakeBookttthtbl
  rw [w_lss, outP_val]
  by_cases cj : j < d
  · rw [decide_eq_true (by omega), condP_true]
    unfold m_fieldfareref1_MakeBookttthtblthb m_fieldfareref1_MakeBookttthtblthbth
    have hsG : Sl G 1 b s (vrow Y) := Sl.mono' (h.mono x12 (by simp)) x3 (fun q => by
      rcases h.low with r | r
      · simp at q; omega
      · exact r)
    have hyG : ∀ y ∈ Y, VEl G y := fun y q => ((hy y q).mono0 x12).mono x3 (fun r => by
      rcases (hy y q).low with z | z
      · simp at r; omega
      · exact z)
    rw [vrow_len hsG, outP_val]
    unfold m_fieldfareref1_MakeBookttthtblthbthtb
    refine loopP_rule (I := fun t G' => ∃ k : Nat, t = (.int .i64 d, s, .ptr (some (H.next, 0)), .ptr (some (H.next + 1, 0)), .int .i64 j, .int .i64 (lhF (goodL (Y.take k) d) j).1, .int .i64 (lhF (goodL (Y.take k) d) j).2, .bool (!decide ((goodL (Y.take k) d).length = 0)), .int .i64 Y.length, .int .i64 k) ∧ k ≤ Y.length ∧ G' = G)
      (μ := fun t _ => match t.2.2.2.2.2.2.2.2.2 with | .int _ z => Y.length - z.toNat | _ => 0) ?_ ⟨0, by rfl, Nat.zero_le _, rfl⟩
    rintro t G' ⟨k, rfl, hk, rfl⟩ rec2 hrec2
    unfold m_fieldfareref1_MakeBookttthtblthbthtbl
    rw [w_lss, outP_val]
    unfold m_fieldfareref1_MakeBookttthtblthbthtblt
    by_cases ck : k < Y.length
    · rw [decide_eq_true (by omega), condP_true]
      unfold m_fieldfareref1_MakeBookttthtblthbthtbltthb m_fieldfareref1_MakeBookttthtblthbthtbltthbt
      obtain ⟨o, a1, a2, a3⟩ := vrow_at hsG ck
      have hv := hyG _ (List.getElem_mem ck)
      have hsn := goodL_snoc Y d k ck
      rw [a1, outP_val, w_load_c, a3, vO_some, outP_val, outP_enter]
      refine rMay_wp hv.is d _ ?_
      have dec : Y.length - ((k : Int) + 1).toNat < Y.length - (k : Int).toNat := by omega
      cases hm : mayB Y[k].2.2 d with
      | false =>
        rw [hm, if_neg (by simp), List.append_nil] at hsn
        rw [w_not, outP_val, Bool.not_false, condP_true, w_add_in (by omega) (by omega), outP_val]
        exact hrec2 _ _ ⟨k + 1, by rw [hsn]; rfl, by omega, rfl⟩ dec
      | true =>
        rw [hm, if_pos rfl] at hsn
        have hmv := (mayB_iff _ _).1 hm
        have hjl : j < Y[k].2.2.length := by omega
        obtain ⟨o', b1, b2, b3⟩ := hv.is.at hjl
        have hval : Y[k].2.2.getD j 0 = Y[k].2.2[j] := getD_at hjl
        have hin := hmv.2.2.2 _ (List.getElem_mem hjl)
        have hF := lhF_snoc (goodL (Y.take k) d) Y[k].2.2 j
        rw [← hsn, hval] at hF
        rw [w_not, outP_val, Bool.not_true, condP_false]
        unfold m_fieldfareref1_MakeBookttthtblthbthtbltthbtt
        rw [a1, outP_val, w_load_c, a3, vO_some, outP_val, b1, outP_val, w_load_c, b3, vO_some, outP_val, w_cint, outP_val, wrap64_in (by omega) (by omega)]
        unfold m_fieldfareref1_MakeBookttthtblthbthtbltthbttt
        have hlen1 : (goodL (Y.take (k + 1)) d).length ≠ 0 := by rw [hsn, List.length_append, List.length_singleton]; omega
        have fin : ∀ l : Int, l = (lhF (goodL (Y.take (k + 1)) d) j).1 → m_fieldfareref1_MakeBookttthtblthbthtbltthbtttt K rec rec2 (.int .i64 d) s (.ptr (some (H.next, 0))) (.ptr (some (H.next + 1, 0))) (.int .i64 j) (.int .i64 l) (.int .i64 (lhF (goodL (Y.take k) d) j).2) (.bool (!decide ((goodL (Y.take k) d).length = 0))) (.int .i64 Y[k].2.2[j]) (.int .i64 Y.length) (.int .i64 k) G' := by
          intro l hl
          unfold m_fieldfareref1_MakeBookttthtblthbthtbltthbtttt
          have go : ∀ hh : Int, hh = (lhF (goodL (Y.take (k + 1)) d) j).2 → rec2 (.int .i64 d, s, .ptr (some (H.next, 0)), .ptr (some (H.next + 1, 0)), .int .i64 j, .int .i64 l, .int .i64 hh, .bool true, .int .i64 Y.length, .int .i64 ((k : Int) + 1)) G' := by
            intro hh e
            refine hrec2 _ _ ⟨k + 1, ?_, by omega, rfl⟩ dec
            rw [decide_eq_false hlen1, ← hl, ← e]; rfl
          rw [w_not, outP_val, Bool.not_not, boolIs_bool, beq_ff]
          by_cases c0 : (goodL (Y.take k) d).length = 0
          · rw [decide_eq_true c0, Bool.not_true, guardP_false, guardP_false, guardP_false, w_pick_b, outP_val, if_pos rfl, condP_true, w_add_in (by omega) (by omega), outP_val]
            refine go _ ?_
            rw [hF, if_pos c0]; show _ = max _ _; omega
          · rw [decide_eq_false c0, Bool.not_false, guardP_true, outP_val, guardP_true, outP_val, guardP_true, w_gtr, outP_val, w_pick_b, outP_val, if_neg (by simp)]
            by_cases c3 : (lhF (goodL (Y.take k) d) j).2 < Y[k].2.2[j]
            · rw [decide_eq_true c3, condP_true, w_add_in (by omega) (by omega), outP_val]
              refine go _ ?_
              rw [hF, if_neg c0, if_neg c0]; show _ = max _ _; omega
            · rw [decide_eq_false c3, condP_false, w_add_in (by omega) (by omega), outP_val]
              refine go _ ?_
              rw [hF, if_neg c0, if_neg c0]; show _ = max _ _; omega
        rw [w_not, outP_val, Bool.not_not, boolIs_bool, beq_ff]
        by_cases c0 : (goodL (Y.take k) d).length = 0
        · rw [decide_eq_true c0, Bool.not_true, guardP_false, guardP_false, guardP_false, w_pick_b, outP_val, if_pos rfl, condP_true]
          rw [decide_eq_true c0, Bool.not_true] at fin
          refine fin _ ?_
          rw [hF, if_pos c0]; show _ = min _ _; omega
        · rw [decide_eq_false c0, Bool.not_false, guardP_true, outP_val, guardP_true, outP_val, guardP_true, w_lss, outP_val, w_pick_b, outP_val, if_neg (by simp)]
          rw [decide_eq_false c0, Bool.not_false] at fin
          by_cases c3 : Y[k].2.2[j] < (lhF (goodL (Y.take k) d) j).1
          · rw [decide_eq_true c3, condP_true]
            refine fin _ ?_
            rw [hF, if_neg c0, if_neg c0]; show _ = min _ _; omega
          · rw [decide_eq_false c3, condP_false]
            refine fin _ ?_
            rw [hF, if_neg c0, if_neg c0]; show _ = min _ _; omega
    · rw [decide_eq_false (by omega), condP_false]
      rw [List.take_of_length_le (by omega)] at *
      unfold m_fieldfareref1_MakeBookttthtblthbtt m_fieldfareref1_MakeBookttthtblthbttthb
      have hin := lhF_in (Y := Y) (dim := d) j
      have eL : lowF (goodL Y d) j = (lhF (goodL Y d) j).1 := rfl
      have eS : stpF (goodL Y d) j = stepZ (lhF (goodL Y d) j).1 (lhF (goodL Y d) j).2 := rfl
      have hst := stepZ_in hin.1 hin.2.1 hin.2.2
      have hreach := stepZ_reach (low := (lhF (goodL Y d) j).1) (high := (lhF (goodL Y d) j).2)
      have hdef : stepZ (lhF (goodL Y d) j).1 (lhF (goodL Y d) j).2 = max (((lhF (goodL Y d) j).2 - (lhF (goodL Y d) j).1 + 254) / 255) 1 := rfl
      generalize (lhF (goodL Y d) j).1 = l at *
      generalize (lhF (goodL Y d) j).2 = hh at *
      generalize stepZ l hh = S at *
      refine loopP_rule (I := fun t G2 => ∃ z : Int, t = (.int .i64 d, s, .ptr (some (H.next, 0)), .ptr (some (H.next + 1, 0)), .int .i64 j, .int .i64 l, .int .i64 hh, .int .i64 z) ∧ (z = 1 ∨ z = S) ∧ G2 = G') (μ := fun t _ => match t.2.2.2.2.2.2.2 with | .int _ z => (3000000 - z).toNat | _ => 0) ?_ ⟨1, rfl, .inl rfl, rfl⟩
      rintro t G2 ⟨z, rfl, hz, rfl⟩ rec3 hrec3
      unfold m_fieldfareref1_MakeBookttthtblthbttthbl
      have hz1 : 1 ≤ z ∧ z ≤ 10000 := by rcases hz with rfl | rfl <;> omega
      rw [w_mul, outP_val, wrap64_in (by omega) (by omega), w_sub, outP_val, wrap64_in (by omega) (by omega), w_lss, outP_val]
      by_cases c3 : 255 * z < hh - l
      · have hz' : z = 1 := by rcases hz with q | q <;> omega
        subst hz'
        have hdiv : (hh - l + 254).tdiv 255 = (hh - l + 254) / 255 := Int.tdiv_eq_ediv_of_nonneg (by omega)
        have hmx : max ((hh - l + 254) / 255) (1 + 1) = S := by omega
        rw [decide_eq_true c3, condP_true, w_sub, outP_val, wrap64_in (by omega) (by omega), w_add_in (by omega) (by omega), outP_val, w_quo _ _ _ (show (255 : Int) ≠ 0 by decide), outP_val, hdiv, wrap64_in (by omega) (by omega), w_add_in (by omega) (by omega), outP_val, w_max2_int, outP_val, hmx]
        refine hrec3 _ _ ⟨S, rfl, .inr rfl, rfl⟩ ?_
        show (3000000 - S).toNat < (3000000 - (1 : Int)).toNat
        omega
      · have hzS : z = S := by rcases hz with q | q <;> omega
        subst hzS
        rw [decide_eq_false c3, condP_false]
        have hbm : (G2.more 2).get (H.next + 1) = _ := (get_more _ _ _).trans hb
        obtain ⟨f1, f2, _, f3⟩ := Sl.facts (Own.sl ol)
        obtain ⟨g1, g2, _, g3⟩ := Sl.facts (Own.sl os)
        -- blocks that are apart
        have lowl := Own.low ol
        have lows := Own.low os
        obtain ⟨Bl', ol, hBl', hBl2⟩ : ∃ B, Os 21 .i32 G2 B lo ((List.range j).map (lowF (goodL Y d))) ∧ B ≠ G2.next ∧ B ≠ G2.next + 1 ∧ (B = Bl ∧ Bl < G2.next ∨ G2.next ≤ B) := by
          rcases Nat.eq_zero_or_pos j with q | q
          · subst q
            rw [(hnil rfl).1]
            exact ⟨G2.next + 2, os_nil _ _ _, by omega, by omega, .inr (by omega)⟩
          · have : Bl < G2.next := lowl.resolve_right (by simp; omega)
            exact ⟨Bl, ol, by omega, by omega, .inl ⟨rfl, this⟩⟩
        have xm : Ext [] G2 (G2.more 2) := (Ext.refl _ _).more 2
        obtain ⟨G3, p1, p2, p3, s', G4, B', p4, p5, p6, o5⟩ := push_at (by_ := 4) i32_el (by omega) (Own.mono ol xm (by simp)) (by simp; omega) (b := G2.next) (by rw [next_more]; omega) hBl' l
        rw [next_more] at p3 p6
        have n4 := p5.next
        rw [next_more] at n4
        have hb4 : G4.get (H.next + 1) = _ := p5.get (by rw [next_more]; omega) (by simp; omega) hbm
        obtain ⟨Bs', os, hBs', hBs2, hBd⟩ : ∃ B, Os 21 .i32 G4 B st ((List.range j).map (stpF (goodL Y d))) ∧ B ≠ G2.next + 1 ∧ (B = Bs ∧ Bs < G2.next ∨ G4.next ≤ B) ∧ (B' ≠ B) := by
          have lowB := Own.low o5
          have hB4 : B' < G4.next := lowB.resolve_right (by simp)
          rcases Nat.eq_zero_or_pos j with q | q
          · subst q
            rw [(hnil rfl).2]
            exact ⟨G4.next, os_nil _ _ _, by omega, .inr (Nat.le_refl _), by omega⟩
          · have hs : Bs < G2.next := lows.resolve_right (by simp; omega)
            have hl : Bl < G2.next := lowl.resolve_right (by simp; omega)
            have hd := hne q
            refine ⟨Bs, Own.mono (Own.mono os xm (by simp)) p5 (by simp; omega), by omega, .inl ⟨rfl, hs⟩, by omega⟩
        have hB4 : B' < G4.next := (Own.low o5).resolve_right (by simp)
        obtain ⟨G5, q1, q2, q3, s2, G6, B2, q4, q5, q6, o6⟩ := push_at (by_ := 4) i32_el (by omega) os (by simp; omega) (b := G2.next + 1) (by omega) hBs' z
        have n6 := q5.next
        have hb6 : G6.get (H.next + 1) = _ := q5.get (by omega) (by simp; omega) hb4
        have wl : IntKind.i32.wrap l = l := wrap32_in (by omega) (by omega)
        have wz : IntKind.i32.wrap z = z := wrap32_in (by omega) (by omega)
        obtain ⟨k1, k2, _, k3⟩ := Sl.facts (Own.sl o5)
        obtain ⟨k4, k5, _, k6⟩ := Sl.facts (Own.sl o6)
        rw [w_fieldAddr_ptr, outP_val, w_load_c, hbm, ldV_cells, Nat.zero_add, show ([lo, st] : List AV)[0]? = some lo from rfl, ob_some, f2, vO_some, outP_val, w_cint, outP_val, wl]
        rw [w_fieldAddr_ptr, outP_val, w_load_c, hbm, ldV_cells, Nat.zero_add, show ([lo, st] : List AV)[1]? = some st from rfl, ob_some, g2, vO_some, outP_val, w_cint, outP_val, wz]
        rw [show Nat.add G2.next 0 = G2.next from rfl, p1, outP_val, p4, outP_val]
        rw [w_load_c, hb4, ldV_cells, show ([lo, st] : List AV)[1]? = some st from rfl, ob_some, g2, vO_some, reC_val, beq_slk (Sl.slk (Own.sl os)), ckP_true, w_cint, wz, reC_val, show AV.beq (.int .i32 z) (.int .i32 z) = true by simp [AV.beq, eqZ_eq, kEq], ckP_true]
        rw [w_fieldAddr_ptr, outP_val, show Nat.add G2.next 1 = G2.next + 1 from rfl, q1, outP_val, q4, outP_val]
        rw [w_store_c, hb6, Nat.zero_add, stN_fst _ _ _ _ _ k1, outP_skip, w_fieldAddr_ptr, outP_val, w_store_c, get_put_same, Nat.zero_add, stN_snd _ _ _ _ _ k4, outP_skip, w_add_in (by omega) (by omega), outP_val]
        have xp : Ext [H.next + 1] G6 ((G6.put (H.next + 1) (some (.cells 67 [s', st]))).put (H.next + 1) (some (.cells 67 [s', s2]))) := ((Ext.refl _ _).put (.inr (by simp)) _).put (.inr (by simp)) _
        have xall : Ext [H.next + 1] G1 ((G6.put (H.next + 1) (some (.cells 67 [s', st]))).put (H.next + 1) (some (.cells 67 [s', s2]))) := by
          refine (((x3.mono (m' := [H.next + 1, G2.next, G2.next + 1, Bl', Bs']) (by simp)).trans (xm.mono (by simp))).trans ((p5.mono (by simp)).trans ((q5.mono (by simp)).trans (xp.mono (by simp))))).mono fun b hb hlt => ?_
          simp at hb ⊢; omega
        refine hrec _ _ ⟨j + 1, B', B2, s', s2, by rfl, by omega, xall, get_put_same _ _, by omega, by omega, ?_, ?_, fun q => absurd q (by omega), fun _ => by omega⟩ ?_
        · rw [List.range_succ, List.map_append, List.map_singleton, eL]
          exact Own.mono (Own.mono o5 q5 (by simp; omega)) xp (by simp; omega)
        · rw [List.range_succ, List.map_append, List.map_singleton, eS]
          exact Own.mono o6 xp (by simp; omega)
        · show d - ((j : Int) + 1).toNat < d - (j : Int).toNat
          omega
  · rw [decide_eq_false (by omega), condP_false]
    have : j = d := by omega
    subst this
    obtain ⟨f1, f2, _, f3⟩ := Sl.facts (Own.sl ol)
    obtain ⟨g1, g2, _, g3⟩ := Sl.facts (Own.sl os)
    have hp1G : G.get H.next = _ := x3.get (by omega) (by simp) hp1'
    rw [w_load_n, hb, ldN_two _ f3 g3, vO_some, outP_val, w_store_c, hp1G, stN_two _ _ _ _ _ _ f1 g1, outP_skip, endP_two (get_put_same _ _) f3 g3]
    have xe : Ext [H.next] G (G.put H.next (some (.cells 67 [lo, st]))) := (Ext.refl _ _).put (.inr (by simp)) _
    have xf : Ext [] H (G.put H.next (some (.cells 67 [lo, st]))) := by
      refine ((x12.mono (m' := [H.next + 1, H.next]) (by simp)).trans ((x3.mono (by simp)).trans (xe.mono (by simp)))).mono fun b hb hlt => ?_
      simp at hb; omega
    have eLo : makeLo Y j = (List.range j).map (lowF (goodL Y j)) := by unfold makeLo; rw [hN]
    have eSt : makeSt Y j = (List.range j).map (stpF (goodL Y j)) := by unfold makeSt; rw [hN]
    refine hK _ lo st Bl Bs xf (by omega) (by omega) ?_
    rw [eLo, eSt]
    refine ⟨(Own.mono ol xe (by simp; omega)).sl, (Own.mono os xe (by simp; omega)).sl, by simp; omega, by simp; omega, fun x hx => ?_, fun x hx => ?_⟩
    · obtain ⟨i, hi, rfl⟩ := List.mem_map.1 hx
      have := lhF_in (Y := Y) (dim := j) i
      show -2147483648 ≤ (lhF (goodL Y j) i).1 ∧ _ ≤ _
      unfold lowF; exact ⟨by omega, by show (lhF (goodL Y j) i).1 ≤ _; omega⟩
    · obtain ⟨i, hi, rfl⟩ := List.mem_map.1 hx
      have h1 := lhF_in (Y := Y) (dim := j) i
      have := stepZ_in h1.1 h1.2.1 h1.2.2
      unfold stpF; exact ⟨by show _ ≤ stepZ (lhF (goodL Y j) i).1 (lhF (goodL Y j) i).2; omega, by show stepZ (lhF (goodL Y j) i).1 (lhF (goodL Y j) i).2 ≤ _; omega⟩
end
end Go.Ab
