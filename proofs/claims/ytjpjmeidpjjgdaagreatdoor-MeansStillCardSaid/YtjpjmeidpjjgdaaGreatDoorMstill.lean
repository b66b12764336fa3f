/- fieldfarelaw7.MeansStill: what it does, at any input. -/
import Derived.Test.YtjpjmeidpjjgdaaGreatDoorMids
import Derived.Test.YtjpjmeidpjjgdaaGreatDoorMnear
import Derived.Test.YtjpjmeidpjjgdaaGreatDoorP5
namespace Go.Ab
noncomputable section
open Go.Proofs
set_option maxRecDepth 10000
variable {H H' : AH}

/-! Plain. -/
theorem scoreT_zero (A B : List Int) : ∀ j, scoreT 1 A B j = 0 → ∀ i, i < j → A.getD i 0 = B.getD i 0
  | 0, _, _, h => absurd h (by omega)
  | j + 1, h, i, hi => by
    have h : scoreT 1 A B j + scoreP 1 (A.getD j 0) (B.getD j 0) = 0 := h
    have p := scoreT_pos A B j
    have e : scoreP 1 (A.getD j 0) (B.getD j 0) = (A.getD j 0 - B.getD j 0) * (A.getD j 0 - B.getD j 0) := if_pos rfl
    have q := sq_pos (A.getD j 0 - B.getD j 0)
    rcases Nat.lt_or_ge i j with r | r
    · exact scoreT_zero A B j (by omega) i r
    · obtain rfl : i = j := by omega
      have : (A.getD i 0 - B.getD i 0) * (A.getD i 0 - B.getD i 0) = 0 := by omega
      rcases Int.mul_eq_zero.1 this with z | z <;> omega
theorem score_same {A B : List Int} (hA : Co A) (hB : Co B) (hl : A.length = B.length) (h1 : A.length ≤ 1000) (h : scoreZ 1 A B = 0) : A = B := by
  rw [scoreZ_plain hA hB h1, hl, Nat.min_self] at h
  refine List.ext_getElem hl fun i h1 h2 => ?_
  have := scoreT_zero A B _ h i h2
  rwa [getD_at h1, getD_at h2] at this
theorem score_self {A : List Int} (hA : Co A) (h1 : A.length ≤ 1000) : scoreZ 1 A A = 0 := by rw [scoreZ_plain hA hA h1]; exact scoreT_self _ _
theorem score_ge {A B : List Int} (hA : Co A) (hB : Co B) (h1 : A.length ≤ 1000) : 0 ≤ scoreZ 1 A B := by rw [scoreZ_plain hA hB h1]; exact scoreT_pos _ _ _
structure Good8 (L : List (List Int)) (d : Nat) : Prop where
  co : ∀ V ∈ L, Co V
  len : ∀ V ∈ L, V.length = d
  nd : L.Nodup
  d8 : 1 ≤ d ∧ d ≤ 8
theorem lget {L : List (List Int)} {i : Nat} (h : i < L.length) : L.getD i [] = L[i] := by rw [List.getD_eq_getElem?_getD, List.getElem?_eq_getElem h]; rfl
theorem near_self {L : List (List Int)} {d : Nat} (h : Good8 L d) {i : Nat} (hi : i < L.length) : nearM L L[i] = i := by
  obtain ⟨k, hk, e, le⟩ := near_le (M := L) (V := L[i]) (by omega)
  have hd := h.d8
  have mi := List.getElem_mem hi
  have mk := List.getElem_mem hk
  have s0 : scF L L[i] i = 0 := by unfold scF; rw [lget hi]; exact score_self (h.co _ mi) (by rw [h.len _ mi]; omega)
  have sk : scF L L[i] k = scoreZ 1 L[k] L[i] := by unfold scF; rw [lget hk]
  have g := score_ge (h.co _ mk) (h.co _ mi) (by rw [h.len _ mk]; omega)
  have := le i hi
  have z : scoreZ 1 L[k] L[i] = 0 := by omega
  have same := score_same (h.co _ mk) (h.co _ mi) (by rw [h.len _ mk, h.len _ mi]) (by rw [h.len _ mk]; omega) z
  have : k = i := (List.getElem_inj h.nd).1 same
  show (orderM L L[i]).headD (-1) = i
  rw [e, this]
theorem fold_new (n : Nat) : ∀ (L M : List (List Int)), (M ++ L).Nodup → (M ++ L).length ≤ n → L.foldl (addM n) M = M ++ L
  | [], M, _, _ => by simp
  | V :: L, M, h, hl => by
    have hV : V ∉ M := fun q => (List.nodup_append.1 h).2.2 V q V (by simp) rfl
    rw [List.length_append, List.length_cons] at hl
    show L.foldl (addM n) (addM n M V) = _
    rw [addM, if_pos ⟨by omega, hV⟩, fold_new n L (M ++ [V]) (by simpa using h) (by simp; omega)]
    simp
theorem beg_still {L : List (List Int)} {d : Nat} (h : Good8 L d) (hl : L.length ≤ 16) : begM 16 L = L := by
  have := fold_new 16 L [] (by simpa using h.nd) (by simpa using hl)
  simpa [begM] using this
theorem sumM_one (V : List Int) (i : Nat) : sumM [V] i = V.getD i 0 := by simp [sumM]
theorem turn_still {L : List (List Int)} {d : Nat} (h : Good8 L d) : turnM L L = L := by
  refine List.ext_getElem (turnM_len L L) fun i h1 h2 => ?_
  rw [turnM_at, lget h2]
  have e : ofM L L i = [L[i]] := by
    have nd := h.nd
    have hp : ∀ V ∈ L, (decide (nearM L V = (i : Int)) = true ↔ V = L[i]) := fun V hV => by
      obtain ⟨u, hu, rfl⟩ := List.mem_iff_getElem.1 hV
      rw [near_self h hu, decide_eq_true_iff]
      constructor
      · intro q; have : u = i := by omega
        subst this; rfl
      · intro q; rw [(List.getElem_inj nd).1 q]
    have p1 : (ofM L L i).Perm [L[i]] := by
      refine (List.perm_ext_iff_of_nodup (nd.filter _) (by simp)).2 fun V => ?_
      rw [List.mem_filter, List.mem_singleton]
      constructor
      · rintro ⟨hV, q⟩; exact (hp V hV).1 q
      · rintro rfl; exact ⟨List.getElem_mem h2, (hp _ (List.getElem_mem h2)).2 rfl⟩
    exact List.perm_singleton.1 p1
  rw [e, midV, if_neg (by simp)]
  refine List.ext_getElem (by simp) fun j g1 g2 => ?_
  rw [List.getElem_map, List.getElem_range, sumM_one, getD_at g2]
  exact Int.ediv_one _
theorem iter_still {L : List (List Int)} {d : Nat} (h : Good8 L d) : ∀ k, iterM L k L = L
  | 0 => rfl
  | k + 1 => by show turnM (iterM L k L) L = L; rw [iter_still h k]; exact turn_still h
theorem mids_still {L : List (List Int)} {d : Nat} (h : Good8 L d) (hl : L.length ≤ 16) (r : Int) : midsM 16 r L = L := by
  unfold midsM
  rw [show (min (max (16 : Int) 1) 16).toNat = 16 from by decide, beg_still h hl]
  exact iter_still h _

theorem meansStill_wp {b : Nat} {s : AV} {Y0 : List Vq} (dim r : Int) (h : Sl H 1 b s (vrow Y0)) (hy : ∀ y ∈ Y0, VEl H y) (hl : Laid H) (K : AV → AH → Prop) (hK : ∀ H', Ext [] H H' → K (.bool true) H') :
    CC.call 5 [.int .i64 dim, s, .int .i64 r] H K := by
  refine m_fieldfarelaw7_MeansStill_ok _ _ _ _ _ ?_
  unfold m_fieldfarelaw7_MeansStill m_fieldfarelaw7_MeansStillt
  rw [outP_enter]
  refine begun_wp hl _ ?_
  unfold m_fieldfarelaw7_MeansStilltt
  rw [w_not, outP_val, Bool.not_true, condP_false]
  unfold m_fieldfarelaw7_MeansStillttt
  rw [outP_enter]
  refine dim_wp dim _ fun d hd1 hd2 => ?_
  unfold m_fieldfarelaw7_MeansStilltttt m_fieldfarelaw7_MeansStillttttth
  rw [outP_enter]
  refine vecs_wp h hy d 16 ⟨hd1, hd2⟩ (by omega) _ fun G1 s1 B1 Y x1 hB1 z1 vz => ?_
  have hYl : Y.length ≤ 16 := by have := congrArg List.length vz; simp at this; omega
  have hYd : ∀ y ∈ Y, y.2.2.length = d ∧ Co y.2.2 := fun z q => by
    have : z.2.2 ∈ (Y0.take 16).map fun y => vecL y.2.2 d := by rw [← vz]; exact List.mem_map.2 ⟨z, q, rfl⟩
    obtain ⟨y, hy, e⟩ := List.mem_map.1 this
    rw [← e]; exact ⟨vecL_len _ _, vecL_in _ _⟩
  have vs1 : Vs G1 B1 s1 Y := z1.vsM (by omega) fun z q => by have := (hYd z q).1; omega
  rw [vrow_len vs1.sl, outP_val]
  unfold m_fieldfarelaw7_MeansStillttttthtb
  refine loopP_rule (I := fun t G => ∃ (j B : Nat) (s' : AV) (L : List Vq), t = (.int .i64 r, s', s1, .int .i64 Y.length, .int .i64 j) ∧ j ≤ Y.length ∧ Ext [] G1 G ∧ G1.next ≤ B ∧ Own G 38 1 B s' (vrow L) ∧ (∀ y ∈ L, y ∈ Y) ∧ L.length ≤ j ∧ (vals L).Nodup)
    (μ := fun t _ => match t.2.2.2.2 with | .int _ z => Y.length - z.toNat | _ => 0) ?_ ⟨0, G1.next, _, [], rfl, Nat.zero_le _, Ext.refl _ _, Nat.le_refl _, Own.nil _ _ _ _, by simp, Nat.le_refl _, by simp⟩
  rintro t G ⟨j, B, s', L, rfl, hj, x, hB, o, hLY, hLj, nd⟩ rec hrec
  unfold m_fieldfarelaw7_MeansStillttttthtbl
  dsimp only
  rw [w_lss, outP_val]
  have vL : ∀ {G' : AH}, Ext [] G G' → Vs G' B s' L := fun e => ⟨o.sl.mono e (by simp), fun y q => (vs1.el y (hLY y q)).mono0 (x.trans e), by omega, fun y q => vs1.short y (hLY y q)⟩
  have lv : (vals L).length = L.length := by simp
  have g8 : Good8 (vals L) d := ⟨fun V hV => by obtain ⟨y, q, rfl⟩ := List.mem_map.1 hV; exact (hYd y (hLY y q)).2, fun V hV => by obtain ⟨y, q, rfl⟩ := List.mem_map.1 hV; exact (hYd y (hLY y q)).1, nd, hd1, hd2⟩
  have nx := x.next
  by_cases cj : j < Y.length
  · obtain ⟨p, a1, _, a3⟩ := vrow_at (vs1.mono0 x).sl cj
    have mj := List.getElem_mem cj
    have he := (vs1.el _ mj).mono0 x
    rw [decide_eq_true (by omega), condP_true, a1, outP_val, w_load_c, a3, vO_some, outP_val, outP_enter]
    refine nearest_wp (vL (Ext.refl _ _)) he.is he.in32 _ fun G2 x2 => ?_
    rw [show (orderM (vals L) Y[j].2.2).headD (-1) = nearM (vals L) Y[j].2.2 from rfl]
    have dec : Y.length - ((j : Int) + 1).toNat < Y.length - (j : Int).toNat := by omega
    have add : Y[j].2.2 ∉ vals L → outP CC G2 (w_buildSlice PP 38 1 G2 [(0, Y[j].1)] none) (fun v14 H14 => outP CC H14 (w_append 38 1 24 H14 s' v14 none) fun v15 H15 => outP CC H15 (w_int .add H15 (.int .i64 j) (.int .i64 1)) fun v16 H16 => rec (.int .i64 r, v15, s1, .int .i64 Y.length, v16) H16) := fun ni => by
      refine push_vec (o.mono x2 (by simp)) (by omega) Y[j] (Sl.slk he.is) _ fun G3 s3 B3 x3 hB3 o3 => ?_
      have n2 := x2.next
      rw [w_add_in (by omega) (by omega), outP_val]
      refine hrec _ _ ⟨j + 1, B3, s3, _, by rfl, by omega, ((x.trans x2).mono (m' := [B]) (by simp)).trans x3 |>.mono fun b hb hlt => (by simp at hb; omega), by omega, o3, fun y q => ?_, by simp; omega, ?_⟩ dec
      · rcases List.mem_append.1 q with q | q
        · exact hLY y q
        · rw [List.mem_singleton.1 q]; exact mj
      · rw [show vals (L ++ [Y[j]]) = vals L ++ [Y[j].2.2] by simp]
        refine List.nodup_append.2 ⟨nd, by simp, fun V hV W hW => ?_⟩
        rw [List.mem_singleton.1 hW]
        rintro rfl; exact ni hV
    rcases near_cases (vals L) Y[j].2.2 with ⟨c, e⟩ | ⟨u, hu, e⟩
    · rw [e, w_lss, show decide ((-1 : Int) < 0) = true from rfl]
      repeat (first | rw [outP_val] | rw [guardP_true] | rw [guardP_false] | rw [condP_true] | rw [condP_false] | rw [boolIs_bool] | rw [boolIs_undef] | rw [beq_tt] | rw [beq_ff] | rw [Bool.not_true] | rw [Bool.not_false] | rw [outP_skip] | rw [w_pick_b] | rw [if_pos rfl] | rw [if_neg Bool.false_ne_true] | rw [w_fieldAddr_ptr] | rw [w_nil_ptr] | rw [Nat.zero_add] | rw [w_load_c] | rw [w_load_n] | rw [vO_some] | rw [w_store_c] | rw [w_not] | rw [w_lss] | rw [w_leq] | rw [w_gtr] | rw [w_geq] | rw [w_eql] | rw [w_neq] | rw [w_cint] | rw [w_min2_int] | rw [w_max2_int] | rw [w_add_in (by omega) (by omega)] | rw [w_sub_in (by omega) (by omega)] | rw [w_mul_in (by omega) (by omega)])
      exact add (by rw [c]; simp)
    · rw [lv] at hu
      obtain ⟨q, d1, _, d3⟩ := vrow_at (vL x2).sl hu
      have mu := List.getElem_mem hu
      rw [e, w_lss, decide_eq_false (by omega)]
      repeat (first | rw [outP_val] | rw [guardP_true] | rw [guardP_false] | rw [condP_true] | rw [d1] | rw [d3] | rw [condP_false] | rw [boolIs_bool] | rw [boolIs_undef] | rw [beq_tt] | rw [beq_ff] | rw [Bool.not_true] | rw [Bool.not_false] | rw [outP_skip] | rw [w_pick_b] | rw [if_pos rfl] | rw [if_neg Bool.false_ne_true] | rw [w_fieldAddr_ptr] | rw [w_nil_ptr] | rw [Nat.zero_add] | rw [w_load_c] | rw [w_load_n] | rw [vO_some] | rw [w_store_c] | rw [w_not] | rw [w_lss] | rw [w_leq] | rw [w_gtr] | rw [w_geq] | rw [w_eql] | rw [w_neq] | rw [w_cint] | rw [w_min2_int] | rw [w_max2_int] | rw [w_add_in (by omega) (by omega)] | rw [w_sub_in (by omega) (by omega)] | rw [w_mul_in (by omega) (by omega)])
      rw [outP_enter]
      refine vecEq_wp ((vL x2).el _ mu).is (he.mono0 x2).is (by have := (vL x2).short _ mu; omega) _ ?_
      repeat (first | rw [outP_val] | rw [guardP_true] | rw [guardP_false] | rw [condP_true] | rw [condP_false] | rw [boolIs_bool] | rw [boolIs_undef] | rw [beq_tt] | rw [beq_ff] | rw [Bool.not_true] | rw [Bool.not_false] | rw [outP_skip] | rw [w_pick_b] | rw [if_pos rfl] | rw [if_neg Bool.false_ne_true] | rw [w_fieldAddr_ptr] | rw [w_nil_ptr] | rw [Nat.zero_add] | rw [w_load_c] | rw [w_load_n] | rw [vO_some] | rw [w_store_c] | rw [w_not] | rw [w_lss] | rw [w_leq] | rw [w_gtr] | rw [w_geq] | rw [w_eql] | rw [w_neq] | rw [w_cint] | rw [w_min2_int] | rw [w_max2_int] | rw [w_sub_in (by omega) (by omega)] | rw [w_mul_in (by omega) (by omega)] | rw [outP_enter])
      have ev : (vals L)[u]'(by omega) = L[u].2.2 := by simp
      by_cases cc : L[u].2.2 = Y[j].2.2
      · rw [decide_eq_true cc]
        repeat (first | rw [outP_val] | rw [guardP_true] | rw [guardP_false] | rw [condP_true] | rw [condP_false] | rw [boolIs_bool] | rw [boolIs_undef] | rw [beq_tt] | rw [beq_ff] | rw [Bool.not_true] | rw [Bool.not_false] | rw [outP_skip] | rw [w_pick_b] | rw [if_pos rfl] | rw [if_neg Bool.false_ne_true] | rw [w_fieldAddr_ptr] | rw [w_nil_ptr] | rw [Nat.zero_add] | rw [w_load_c] | rw [w_load_n] | rw [vO_some] | rw [w_store_c] | rw [w_not] | rw [w_lss] | rw [w_leq] | rw [w_gtr] | rw [w_geq] | rw [w_eql] | rw [w_neq] | rw [w_cint] | rw [w_min2_int] | rw [w_max2_int] | rw [w_sub_in (by omega) (by omega)] | rw [w_mul_in (by omega) (by omega)] | rw [outP_enter])
        rw [w_add_in (by omega) (by omega), outP_val]
        exact hrec _ _ ⟨j + 1, B, s', L, by rfl, by omega, x.trans x2, hB, o.mono x2 (by simp), hLY, by omega, nd⟩ dec
      · rw [decide_eq_false cc]
        repeat (first | rw [outP_val] | rw [guardP_true] | rw [guardP_false] | rw [condP_true] | rw [condP_false] | rw [boolIs_bool] | rw [boolIs_undef] | rw [beq_tt] | rw [beq_ff] | rw [Bool.not_true] | rw [Bool.not_false] | rw [outP_skip] | rw [w_pick_b] | rw [if_pos rfl] | rw [if_neg Bool.false_ne_true] | rw [w_fieldAddr_ptr] | rw [w_nil_ptr] | rw [Nat.zero_add] | rw [w_load_c] | rw [w_load_n] | rw [vO_some] | rw [w_store_c] | rw [w_not] | rw [w_lss] | rw [w_leq] | rw [w_gtr] | rw [w_geq] | rw [w_eql] | rw [w_neq] | rw [w_cint] | rw [w_min2_int] | rw [w_max2_int] | rw [w_sub_in (by omega) (by omega)] | rw [w_mul_in (by omega) (by omega)] | rw [outP_enter])
        refine add fun hm => ?_
        obtain ⟨w, hw, ew⟩ := List.mem_iff_getElem.1 hm
        have ns := near_self g8 hw
        rw [ew, e] at ns
        have : u = w := by omega
        subst this
        exact cc (ev.symm.trans ew)
  · rw [decide_eq_false (by omega), condP_false]
    unfold m_fieldfarelaw7_MeansStilltttttt
    rw [outP_enter]
    refine midsN_wp (vL (Ext.refl _ _)) (fun y q => by have := (hYd y (hLY y q)).1; omega) 16 r _ fun G2 s2 B2 Z x2 hB2 z2 vZ => ?_
    rw [mids_still g8 (by omega)] at vZ
    have lz : (vals Z).length = Z.length := by simp
    have lZ : Z.length = L.length := by rw [← lz, vZ, lv]
    have vZs : Vs G2 B2 s2 Z := z2.vsM (by omega) fun z q => by
      have : z.2.2 ∈ vals L := by rw [← vZ]; exact List.mem_map.2 ⟨z, q, rfl⟩
      have := g8.len _ this; omega
    unfold m_fieldfarelaw7_MeansStillttttttt
    rw [vrow_len vZs.sl, outP_val, vrow_len (vL x2).sl, outP_val, w_neq, outP_val, decide_eq_true (by omega), Bool.not_true, condP_false]
    unfold m_fieldfarelaw7_MeansStilltttttttth
    rw [vrow_len vZs.sl, outP_val]
    unfold m_fieldfarelaw7_MeansStilltttttttthtb
    refine loopP_rule (I := fun t Gx => ∃ k : Nat, t = (s', s2, .int .i64 Z.length, .int .i64 k) ∧ k ≤ Z.length ∧ Ext [] G2 Gx) (μ := fun t _ => match t.2.2.2 with | .int _ z => Z.length - z.toNat | _ => 0) ?_ ⟨0, rfl, Nat.zero_le _, Ext.refl _ _⟩
    rintro t Gx ⟨k, rfl, hk, xx⟩ rec2 hrec2
    unfold m_fieldfarelaw7_MeansStilltttttttthtbl
    dsimp only
    rw [w_lss, outP_val]
    by_cases ck : k < Z.length
    · have ck' : k < L.length := by omega
      have vz' := vZs.mono0 xx
      have vl' := vL (x2.trans xx)
      obtain ⟨p, a1, _, a3⟩ := vrow_at vz'.sl ck
      obtain ⟨q, d1, _, d3⟩ := vrow_at vl'.sl ck'
      have e : Z[k].2.2 = L[k].2.2 := by
        have h1 := vals_at (Z := Z) ck
        have h2 := vals_at (Z := L) ck'
        rw [← h1, ← h2, vZ]
      have hz := vz'.el _ (List.getElem_mem ck)
      have hl' := vl'.el _ (List.getElem_mem ck')
      rw [decide_eq_true (by omega), condP_true, a1, outP_val, w_load_c, a3, vO_some, outP_val, d1, outP_val, w_load_c, d3, vO_some, outP_val, outP_enter]
      refine vecEq_wp hz.is hl'.is (by have := vz'.short _ (List.getElem_mem ck); omega) _ ?_
      rw [decide_eq_true e]
      repeat (first | rw [outP_val] | rw [guardP_true] | rw [guardP_false] | rw [condP_true] | rw [d1] | rw [d3] | rw [condP_false] | rw [boolIs_bool] | rw [boolIs_undef] | rw [beq_tt] | rw [beq_ff] | rw [Bool.not_true] | rw [Bool.not_false] | rw [outP_skip] | rw [w_pick_b] | rw [if_pos rfl] | rw [if_neg Bool.false_ne_true] | rw [w_fieldAddr_ptr] | rw [w_nil_ptr] | rw [Nat.zero_add] | rw [w_load_c] | rw [w_load_n] | rw [vO_some] | rw [w_store_c] | rw [w_not] | rw [w_lss] | rw [w_leq] | rw [w_gtr] | rw [w_geq] | rw [w_eql] | rw [w_neq] | rw [w_cint] | rw [w_min2_int] | rw [w_max2_int] | rw [w_add_in (by omega) (by omega)] | rw [w_sub_in (by omega) (by omega)] | rw [w_mul_in (by omega) (by omega)])
      rw [outP_enter]
      refine nearest_wp vz' hl'.is hl'.in32 _ fun G4 x4 => ?_
      have ns := near_self g8 (i := k) (by omega)
      have ev : (vals L)[k]'(by omega) = L[k].2.2 := by simp
      rw [ev] at ns
      rw [show (orderM (vals Z) L[k].2.2).headD (-1) = (k : Int) by rw [vZ]; exact ns, w_neq, decide_eq_true rfl]
      repeat (first | rw [outP_val] | rw [guardP_true] | rw [guardP_false] | rw [condP_true] | rw [condP_false] | rw [boolIs_bool] | rw [boolIs_undef] | rw [beq_tt] | rw [beq_ff] | rw [Bool.not_true] | rw [Bool.not_false] | rw [outP_skip] | rw [w_pick_b] | rw [if_pos rfl] | rw [if_neg Bool.false_ne_true] | rw [w_fieldAddr_ptr] | rw [w_nil_ptr] | rw [Nat.zero_add] | rw [w_load_c] | rw [w_load_n] | rw [vO_some] | rw [w_store_c] | rw [w_not] | rw [w_lss] | rw [w_leq] | rw [w_gtr] | rw [w_geq] | rw [w_eql] | rw [w_neq] | rw [w_cint] | rw [w_min2_int] | rw [w_max2_int] | rw [w_sub_in (by omega) (by omega)] | rw [w_mul_in (by omega) (by omega)] | rw [outP_enter])
      rw [w_add_in (by omega) (by omega), outP_val]
      refine hrec2 _ _ ⟨k + 1, by rfl, by omega, xx.trans x4⟩ ?_
      show Z.length - ((k : Int) + 1).toNat < Z.length - (k : Int).toNat
      omega
    · rw [decide_eq_false (by omega), condP_false]
      exact hK _ ((x1.trans x).trans (x2.trans xx))
end
end Go.Ab
