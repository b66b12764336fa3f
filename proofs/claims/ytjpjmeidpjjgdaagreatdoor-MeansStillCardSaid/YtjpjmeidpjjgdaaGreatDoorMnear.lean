/- fieldfarelaw7.MeansNear: what it does, at any input. -/
import Derived.Test.YtjpjmeidpjjgdaaGreatDoorOrd
import Derived.Test.YtjpjmeidpjjgdaaGreatDoorMapLaw
import Derived.Test.YtjpjmeidpjjgdaaGreatDoorP8
namespace Go.Ab
noncomputable section
open Go.Proofs
set_option maxRecDepth 10000
variable {H H' : AH}

/-! Plain. -/
theorem hitsM_mem {M : List (List Int)} {V : List Int} {n : Nat} {x : Int × Int} : x ∈ hitsM M V n ↔ ∃ i : Nat, i < n ∧ x = ((i : Int), scF M V i) := by
  unfold hitsM
  rw [List.mem_map]
  constructor
  · rintro ⟨i, hi, rfl⟩; exact ⟨i, List.mem_range.1 hi, rfl⟩
  · rintro ⟨i, hi, rfl⟩; exact ⟨i, List.mem_range.2 hi, rfl⟩
theorem orderH_mem {M : List (List Int)} {V : List Int} {x : Int × Int} : x ∈ orderH M V ↔ ∃ i : Nat, i < M.length ∧ x = ((i : Int), scF M V i) := by
  unfold orderH
  rw [(sortH_perm _).mem_iff]; exact hitsM_mem
theorem orderM_at {M : List (List Int)} {V : List Int} {t : Nat} (h : t < M.length) : ∃ i : Nat, i < M.length ∧ (orderM M V)[t]'(by rw [orderM_len]; exact h) = i ∧ (orderH M V)[t]'(by rw [orderH_len]; exact h) = ((i : Int), scF M V i) := by
  obtain ⟨i, hi, e⟩ := orderH_mem.1 (List.getElem_mem (show t < (orderH M V).length by rw [orderH_len]; exact h))
  refine ⟨i, hi, ?_, e⟩
  have q : (orderM M V)[t]? = some (i : Int) := by
    unfold orderM
    rw [List.getElem?_map, List.getElem?_eq_getElem (by rw [orderH_len]; exact h), e]; rfl
  rw [List.getElem?_eq_getElem (by rw [orderM_len]; exact h)] at q
  exact Option.some.inj q
theorem orderM_nodup (M : List (List Int)) (V : List Int) : (orderM M V).Nodup := by
  unfold orderM orderH
  refine (List.Perm.nodup_iff ((sortH_perm _).map _)).2 ?_
  unfold hitsM
  rw [List.map_map]
  show ((List.range M.length).map fun (i : Nat) => ((i : Nat) : Int)).Nodup
  exact List.pairwise_map.2 (List.Pairwise.imp (fun h q => h (by omega)) List.nodup_range)
theorem order_le {M : List (List Int)} {V : List Int} {t u : Nat} (htu : t < u) (hu : u < M.length) : leH ((orderH M V)[t]'(by rw [orderH_len]; omega)) ((orderH M V)[u]'(by rw [orderH_len]; omega)) :=
  List.pairwise_iff_getElem.1 (sortH_sorted _) t u _ _ htu
theorem near_le {M : List (List Int)} {V : List Int} (h0 : 0 < M.length) : ∃ k : Nat, k < M.length ∧ (orderM M V).headD (-1) = k ∧ ∀ i : Nat, i < M.length → scF M V k < scF M V i ∨ scF M V k = scF M V i ∧ k ≤ i := by
  obtain ⟨k, hk, e1, e2⟩ := orderM_at (V := V) h0
  refine ⟨k, hk, by rw [← head_at _ (by rw [orderM_len]; exact h0), e1], fun i hi => ?_⟩
  obtain ⟨u, hu, e⟩ := List.mem_iff_getElem.1 (orderH_mem.2 ⟨i, hi, rfl⟩)
  rcases Nat.eq_zero_or_pos u with q | q
  · subst q
    rw [e2] at e
    have := (Prod.mk.inj e).1
    have : k = i := by omega
    subst this; omega
  · have := order_le (M := M) (V := V) q (by rw [orderH_len] at hu; exact hu)
    rw [e2, e, leH_iff] at this
    simp only at this
    omega

theorem Zs.vs {B : Nat} {s : AV} {Z : List Vq} {N : Nat} (h : Zs H B s Z N) (hl : Z.length ≤ 1000) (hs : ∀ z ∈ Z, z.2.2.length ≤ 1000) : Vs H B s Z := ⟨h.own.sl, fun z q => (h.vos z q).1.el, hl, hs⟩
theorem vals_mem {Z : List Vq} {Y : List Vq} {d n : Nat} (h : Z.map (fun z => z.2.2) = (Y.take n).map fun y => vecL y.2.2 d) {z : Vq} (hz : z ∈ Z) : ∃ y ∈ Y, z.2.2 = vecL y.2.2 d := by
  have : z.2.2 ∈ (Y.take n).map fun y => vecL y.2.2 d := by rw [← h]; exact List.mem_map.2 ⟨z, hz, rfl⟩
  obtain ⟨y, hy, e⟩ := List.mem_map.1 this
  exact ⟨y, List.mem_of_mem_take hy, e.symm⟩
theorem look_no {M : Me} {k : Int} (h : k ∉ keysM M) (z : AV) : lookM z M k = z := by
  unfold lookM; rw [findI_none.2 h]
theorem set_new {M : Me} {k : Int} (h : k ∉ keysM M) (v : AV) (clk : Nat) : keysM (setM M k v clk) = keysM M ++ [k] := by
  unfold setM; rw [findI_none.2 h]; simp [keysM]
theorem vecL_32 (V : List Int) (d : Nat) : In32 (vecL V d) := fun x hx => by have := vecL_in V d x hx; omega
theorem ints_slM : PP.underlying 33 = some (.slice 3) := by kernel_rfl
theorem int_key : PP.underlying 3 = some (.int .i64) := by kernel_rfl
theorem bool_zero : zeroA PP 4 = some (.bool false) := by kernel_rfl
theorem meansNear_wp {b bv : Nat} {s v : AV} {Y : List Vq} {V0 : List Int} (h : Sl H 1 b s (vrow Y)) (hy : ∀ y ∈ Y, VEl H y) (hv : Is .i32 H bv v V0) (hl : Laid H) (K : AV → AH → Prop) (hK : ∀ H', Ext [] H H' → K (.bool true) H') :
    CC.call 8 [s, v] H K := by
  refine m_fieldfarelaw7_MeansNear_ok _ _ _ _ ?_
  unfold m_fieldfarelaw7_MeansNear m_fieldfarelaw7_MeansNeart
  rw [outP_enter]
  refine begun_wp hl _ ?_
  unfold m_fieldfarelaw7_MeansNeartt
  rw [w_not, outP_val, Bool.not_true, condP_false]
  unfold m_fieldfarelaw7_MeansNearttt
  rw [outP_enter]
  refine vecs_wp h hy 3 12 (by omega) (by omega) _ fun G1 s1 B1 Z x1 hB1 z1 vz => ?_
  have hZl : Z.length ≤ 12 := by have := congrArg List.length vz; simp at this; omega
  have hZd : ∀ z ∈ Z, z.2.2.length ≤ 1000 := fun z q => by obtain ⟨y, _, e⟩ := vals_mem vz q; rw [e, vecL_len]; omega
  have vs1 := z1.vs (by omega) hZd
  unfold m_fieldfarelaw7_MeansNeartttt
  rw [outP_enter]
  refine vec_wp (Sl.mono hv x1 (by simp)) 3 (by omega) _ fun G2 v2 B2 x2 hB2 o2 => ?_
  have hV := vecL_32 V0 3
  generalize vecL V0 3 = V at *
  have vs2 := vs1.mono0 x2
  have x12 := x1.trans x2
  have nn : ∀ {G : AH}, Ext [] G2 G → Is .i32 G B2 v2 V := fun x => Sl.mono o2.is x (by simp)
  unfold m_fieldfarelaw7_MeansNearttttt
  rw [outP_enter]
  refine nearest_wp vs2 o2.is hV _ fun G3 x3 => ?_
  unfold m_fieldfarelaw7_MeansNeartttttt
  have vs3 := vs2.mono0 x3
  rw [vrow_len vs3.sl, outP_val, w_eql, outP_val]
  have hlm : (vals Z).length = Z.length := by simp
  by_cases c0 : Z.length = 0
  · have e : orderM (vals Z) V = [] := List.length_eq_zero_iff.1 (by rw [orderM_len, hlm, c0])
    rw [decide_eq_true (by omega), condP_true, e, w_eql, outP_val, show decide ((([] : List Int).headD (-1)) = -1) = true from rfl]
    exact hK _ (x12.trans x3)
  · rw [decide_eq_false (by omega), condP_false]
    obtain ⟨k, hk, ek, kle⟩ := near_le (M := vals Z) (V := V) (by omega)
    rw [ek]
    unfold m_fieldfarelaw7_MeansNearttttttt
    rw [outP_enter]
    refine order_wp vs3 (nn x3) hV _ fun G4 s4 B4 x4 hB4 o4 => ?_
    have vs4 := vs3.mono0 x4
    have x34 := x3.trans x4
    have lo : (orderM (vals Z) V).length = Z.length := by rw [orderM_len, hlm]
    unfold m_fieldfarelaw7_MeansNeartttttttt
    rw [hlm] at hk
    have l4 := o4.is.len ints_slM
    rw [lo] at l4
    rw [w_lss, decide_eq_false (show ¬ ((k : Int) < 0) by omega)]
    repeat (first | rw [outP_val] | rw [guardP_true] | rw [guardP_false] | rw [condP_true] | rw [vrow_len vs4.sl] | rw [l4] | rw [condP_false] | rw [boolIs_bool] | rw [boolIs_undef] | rw [beq_tt] | rw [beq_ff] | rw [Bool.not_true] | rw [Bool.not_false] | rw [outP_skip] | rw [w_pick_b] | rw [if_pos rfl] | rw [if_neg Bool.false_ne_true] | rw [w_fieldAddr_ptr] | rw [w_nil_ptr] | rw [Nat.zero_add] | rw [w_load_c] | rw [w_load_n] | rw [vO_some] | rw [w_store_c] | rw [w_not] | rw [w_lss] | rw [w_leq] | rw [w_gtr] | rw [w_eql] | rw [w_neq] | rw [w_cint] | rw [w_min2_int] | rw [w_max2_int] | rw [w_add_in (by omega) (by omega)] | rw [w_sub_in (by omega) (by omega)] | rw [w_mul_in (by omega) (by omega)] | rw [outP_enter])
    rw [w_geq, decide_eq_false (show ¬ ((Z.length : Int) ≤ (k : Int)) by omega)]
    repeat (first | rw [outP_val] | rw [guardP_true] | rw [guardP_false] | rw [condP_true] | rw [vrow_len vs4.sl] | rw [l4] | rw [condP_false] | rw [boolIs_bool] | rw [boolIs_undef] | rw [beq_tt] | rw [beq_ff] | rw [Bool.not_true] | rw [Bool.not_false] | rw [outP_skip] | rw [w_pick_b] | rw [if_pos rfl] | rw [if_neg Bool.false_ne_true] | rw [w_fieldAddr_ptr] | rw [w_nil_ptr] | rw [Nat.zero_add] | rw [w_load_c] | rw [w_load_n] | rw [vO_some] | rw [w_store_c] | rw [w_not] | rw [w_lss] | rw [w_leq] | rw [w_gtr] | rw [w_geq] | rw [w_eql] | rw [w_cint] | rw [w_min2_int] | rw [w_max2_int] | rw [w_add_in (by omega) (by omega)] | rw [w_sub_in (by omega) (by omega)] | rw [w_mul_in (by omega) (by omega)] | rw [outP_enter])
    rw [w_neq, decide_eq_true (show (Z.length : Int) = (Z.length : Int) from rfl)]
    repeat (first | rw [outP_val] | rw [guardP_true] | rw [guardP_false] | rw [condP_true] | rw [condP_false] | rw [boolIs_bool] | rw [boolIs_undef] | rw [beq_tt] | rw [beq_ff] | rw [Bool.not_true] | rw [Bool.not_false] | rw [outP_skip] | rw [w_pick_b] | rw [if_pos rfl] | rw [if_neg Bool.false_ne_true] | rw [w_fieldAddr_ptr] | rw [w_nil_ptr] | rw [Nat.zero_add] | rw [w_load_c] | rw [w_load_n] | rw [vO_some] | rw [w_store_c] | rw [w_not] | rw [w_lss] | rw [w_leq] | rw [w_gtr] | rw [w_geq] | rw [w_eql] | rw [w_neq] | rw [w_cint] | rw [w_min2_int] | rw [w_max2_int] | rw [w_add_in (by omega) (by omega)] | rw [w_sub_in (by omega) (by omega)] | rw [w_mul_in (by omega) (by omega)] | rw [outP_enter])
    have sc : ∀ {G : AH} (x : Ext [] G2 G) (i : Nat) (hi : i < Z.length) (K' : AV → AH → Prop), K' (.int .i64 (scF (vals Z) V i)) G → CC.call 31 [.int .i64 1, Z[i].1, v2] G K' := fun {G} x i hi K' hk' => by
      have hm := List.getElem_mem hi
      refine score_wp ((vs2.mono0 x).el _ hm).is (nn x) ((vs2.mono0 x).el _ hm).in32 hV (.inl (by have := hZd _ hm; omega)) 1 _ ?_
      have e : scF (vals Z) V i = scoreZ 1 Z[i].2.2 V := by unfold scF; rw [vals_at hi]
      rw [← e]; exact hk'
    have vat : ∀ {G : AH} (x : Ext [] G2 G) (i : Nat) (hi : i < Z.length), ∃ p, (∀ G' : AH, w_indexAddr (.sl 1) G' s1 (.int .i64 i) = some (.val (.ptr (some (B1, p))) G')) ∧ ldV (G.get B1) p = some Z[i].1 := fun {G} x i hi => by
      obtain ⟨p, a1, _, a3⟩ := vrow_at (vs2.mono0 x).sl hi
      exact ⟨p, a1, a3⟩
    unfold m_fieldfarelaw7_MeansNearttttttttt
    obtain ⟨p0, a1, a3⟩ := vat x34 k hk
    rw [a1, outP_val, w_load_c, a3, vO_some, outP_val, outP_enter]
    refine sc x34 k hk _ ?_
    unfold m_fieldfarelaw7_MeansNeartttttttttt
    rw [w_make_map, outP_val]
    have x5 : Ext [] G4 (G4.new (.mp (ents []) 0)) := (Ext.refl _ _).new _
    have hm0 := get_new_same G4 (.mp (ents []) 0)
    have n34 := x34.next
    have hmlt : G4.next < (G4.new (.mp (ents []) 0)).next := by rw [next_new]; omega
    obtain ⟨mp, hmp⟩ : ∃ m, m = G4.next := ⟨_, rfl⟩
    rw [← hmp] at hm0 hmlt ⊢
    generalize G4.new (.mp (ents []) 0) = G5 at *
    unfold m_fieldfarelaw7_MeansNearttttttttttth
    rw [vrow_len (vs2.mono0 (x34.trans x5)).sl, outP_val]
    unfold m_fieldfarelaw7_MeansNearttttttttttthtb
    refine loopP_rule (I := fun t G => ∃ (j : Nat) (M : Me) (clk : Nat), t = (s1, v2, .int .i64 k, s4, .int .i64 (scF (vals Z) V k), .map (some mp), .int .i64 Z.length, .int .i64 j) ∧ j ≤ Z.length ∧ Ext [] G4 G ∧ mp < G.next ∧ G.get mp = some (.mp (ents M) clk) ∧ keysM M = (orderM (vals Z) V).take j)
      (μ := fun t _ => match t.2.2.2.2.2.2.2 with | .int _ z => Z.length - z.toNat | _ => 0) ?_ ⟨0, [], 0, rfl, Nat.zero_le _, x5, hmlt, hm0, rfl⟩
    rintro t G ⟨j, M, clk, rfl, hj, x, hml, hm, hkeys⟩ rec hrec
    unfold m_fieldfarelaw7_MeansNearttttttttttthtbl
    dsimp only
    rw [w_lss]
    by_cases cj : j < Z.length
    · have xg := x34.trans x
      obtain ⟨i, hi, ei, eO⟩ := orderM_at (M := vals Z) (V := V) (t := j) (by omega)
      rw [hlm] at hi
      obtain ⟨pj, b1, b3⟩ := vat xg j cj
      have o5 := Own.mono o4 x (by simp)
      have i5 : Is .i64 G B4 s4 (orderM (vals Z) V) := o5.sl
      obtain ⟨qj, c1, _, c3⟩ := i5.at (j := j) (by omega)
      rw [ei] at c3
      have hnew : (i : Int) ∉ keysM M := by
        rw [hkeys, ← ei]
        intro q
        obtain ⟨u, hu, e⟩ := List.mem_take_iff_getElem.1 q
        have := (List.getElem_inj (orderM_nodup (vals Z) V)).1 e
        omega
      have lk := w_look (H := G) (kt := 3) (et := 4) int_key bool_zero hm (i : Int)
      rw [look_no hnew] at lk
      rw [decide_eq_true (by omega), outP_val, condP_true, b1, outP_val, w_load_c, b3, vO_some, outP_val, outP_enter]
      refine sc xg j cj _ ?_
      have kj := kle j (by omega)
      rw [w_lss, decide_eq_false (by omega)]
      repeat (first | rw [outP_val] | rw [guardP_true] | rw [guardP_false] | rw [condP_true] | rw [condP_false] | rw [boolIs_bool] | rw [boolIs_undef] | rw [beq_tt] | rw [beq_ff] | rw [Bool.not_true] | rw [Bool.not_false] | rw [outP_skip] | rw [w_pick_b] | rw [if_pos rfl] | rw [if_neg Bool.false_ne_true] | rw [w_fieldAddr_ptr] | rw [w_nil_ptr] | rw [Nat.zero_add] | rw [w_load_c] | rw [w_load_n] | rw [vO_some] | rw [w_store_c] | rw [w_not] | rw [w_lss] | rw [w_leq] | rw [w_gtr] | rw [w_geq] | rw [w_neq] | rw [w_cint] | rw [w_min2_int] | rw [w_max2_int] | rw [w_add_in (by omega) (by omega)] | rw [w_sub_in (by omega) (by omega)] | rw [w_mul_in (by omega) (by omega)] | rw [outP_enter])
      have tie : ∀ (a b c d : Int) (_ : a = b → ¬ c < d) (K' : AV → AH → Prop), K' (.bool false) G → outP CC G (w_int .eql G (.int .i64 a) (.int .i64 b)) (fun v8 H8 => guardP true H8 (outP CC H8 (some (.val v8 H8))) fun v9 H9 => guardP (boolIs true v9) H9 (outP CC H9 (some (.val (.int .i64 c) H9))) fun v10 H10 => guardP (boolIs true v9) H10 (outP CC H10 (some (.val (.int .i64 d) H10))) fun v11 H11 => guardP (boolIs true v9) H11 (outP CC H11 (w_int .lss H11 v10 v11)) fun v12 H12 => guardP true H12 (outP CC H12 (w_pick H12 v9 v12 (.bool false))) fun v13 H13 => outP CC H13 (w_pick H13 (.bool false) (.bool true) v13) K') := by
        intro a b c d hq K' hk'
        rw [w_eql]
        by_cases q : a = b
        · rw [decide_eq_true q]
          repeat (first | rw [outP_val] | rw [guardP_true] | rw [guardP_false] | rw [condP_true] | rw [condP_false] | rw [boolIs_bool] | rw [boolIs_undef] | rw [beq_tt] | rw [beq_ff] | rw [Bool.not_true] | rw [Bool.not_false] | rw [outP_skip] | rw [w_pick_b] | rw [if_pos rfl] | rw [if_neg Bool.false_ne_true] | rw [w_fieldAddr_ptr] | rw [w_nil_ptr] | rw [Nat.zero_add] | rw [w_load_c] | rw [w_load_n] | rw [vO_some] | rw [w_store_c] | rw [w_not] | rw [w_leq] | rw [w_gtr] | rw [w_geq] | rw [w_eql] | rw [w_neq] | rw [w_cint] | rw [w_min2_int] | rw [w_max2_int] | rw [w_add_in (by omega) (by omega)] | rw [w_sub_in (by omega) (by omega)] | rw [w_mul_in (by omega) (by omega)] | rw [outP_enter])
          rw [w_lss, decide_eq_false (hq q)]
          repeat (first | rw [outP_val] | rw [guardP_true] | rw [guardP_false] | rw [condP_true] | rw [condP_false] | rw [boolIs_bool] | rw [boolIs_undef] | rw [beq_tt] | rw [beq_ff] | rw [Bool.not_true] | rw [Bool.not_false] | rw [outP_skip] | rw [w_pick_b] | rw [if_pos rfl] | rw [if_neg Bool.false_ne_true] | rw [w_fieldAddr_ptr] | rw [w_nil_ptr] | rw [Nat.zero_add] | rw [w_load_c] | rw [w_load_n] | rw [vO_some] | rw [w_store_c] | rw [w_not] | rw [w_lss] | rw [w_leq] | rw [w_gtr] | rw [w_geq] | rw [w_eql] | rw [w_neq] | rw [w_cint] | rw [w_min2_int] | rw [w_max2_int] | rw [w_add_in (by omega) (by omega)] | rw [w_sub_in (by omega) (by omega)] | rw [w_mul_in (by omega) (by omega)] | rw [outP_enter])
          exact hk'
        · rw [decide_eq_false q]
          repeat (first | rw [outP_val] | rw [guardP_true] | rw [guardP_false] | rw [condP_true] | rw [condP_false] | rw [boolIs_bool] | rw [boolIs_undef] | rw [beq_tt] | rw [beq_ff] | rw [Bool.not_true] | rw [Bool.not_false] | rw [outP_skip] | rw [w_pick_b] | rw [if_pos rfl] | rw [if_neg Bool.false_ne_true] | rw [w_fieldAddr_ptr] | rw [w_nil_ptr] | rw [Nat.zero_add] | rw [w_load_c] | rw [w_load_n] | rw [vO_some] | rw [w_store_c] | rw [w_not] | rw [w_lss] | rw [w_leq] | rw [w_gtr] | rw [w_geq] | rw [w_eql] | rw [w_neq] | rw [w_cint] | rw [w_min2_int] | rw [w_max2_int] | rw [w_add_in (by omega) (by omega)] | rw [w_sub_in (by omega) (by omega)] | rw [w_mul_in (by omega) (by omega)] | rw [outP_enter])
          exact hk'
      refine tie _ _ _ _ (by omega) _ ?_
      repeat (first | rw [outP_val] | rw [guardP_true] | rw [guardP_false] | rw [condP_true] | rw [c1] | rw [c3] | rw [condP_false] | rw [boolIs_bool] | rw [boolIs_undef] | rw [beq_tt] | rw [beq_ff] | rw [Bool.not_true] | rw [Bool.not_false] | rw [outP_skip] | rw [w_pick_b] | rw [if_pos rfl] | rw [if_neg Bool.false_ne_true] | rw [w_fieldAddr_ptr] | rw [w_nil_ptr] | rw [Nat.zero_add] | rw [w_load_c] | rw [w_load_n] | rw [vO_some] | rw [w_store_c] | rw [w_not] | rw [w_leq] | rw [w_gtr] | rw [w_eql] | rw [w_neq] | rw [w_cint] | rw [w_min2_int] | rw [w_max2_int] | rw [w_add_in (by omega) (by omega)] | rw [w_sub_in (by omega) (by omega)] | rw [w_mul_in (by omega) (by omega)] | rw [outP_enter])
      rw [w_lss, decide_eq_false (show ¬ ((i : Int) < 0) by omega)]
      repeat (first | rw [outP_val] | rw [guardP_true] | rw [guardP_false] | rw [condP_true] | rw [c1] | rw [c3] | rw [vrow_len (vs2.mono0 xg).sl] | rw [condP_false] | rw [boolIs_bool] | rw [boolIs_undef] | rw [beq_tt] | rw [beq_ff] | rw [Bool.not_true] | rw [Bool.not_false] | rw [outP_skip] | rw [w_pick_b] | rw [if_pos rfl] | rw [if_neg Bool.false_ne_true] | rw [w_fieldAddr_ptr] | rw [w_nil_ptr] | rw [Nat.zero_add] | rw [w_load_c] | rw [w_load_n] | rw [vO_some] | rw [w_store_c] | rw [w_not] | rw [w_lss] | rw [w_leq] | rw [w_gtr] | rw [w_eql] | rw [w_neq] | rw [w_cint] | rw [w_min2_int] | rw [w_max2_int] | rw [w_add_in (by omega) (by omega)] | rw [w_sub_in (by omega) (by omega)] | rw [w_mul_in (by omega) (by omega)] | rw [outP_enter])
      rw [w_geq, decide_eq_false (show ¬ ((Z.length : Int) ≤ (i : Int)) by omega)]
      repeat (first | rw [outP_val] | rw [guardP_true] | rw [guardP_false] | rw [condP_true] | rw [c1] | rw [c3] | rw [lk] | rw [condP_false] | rw [boolIs_bool] | rw [boolIs_undef] | rw [beq_tt] | rw [beq_ff] | rw [Bool.not_true] | rw [Bool.not_false] | rw [outP_skip] | rw [w_pick_b] | rw [if_pos rfl] | rw [if_neg Bool.false_ne_true] | rw [w_fieldAddr_ptr] | rw [w_nil_ptr] | rw [Nat.zero_add] | rw [w_load_c] | rw [w_load_n] | rw [vO_some] | rw [w_store_c] | rw [w_not] | rw [w_lss] | rw [w_leq] | rw [w_gtr] | rw [w_geq] | rw [w_eql] | rw [w_neq] | rw [w_cint] | rw [w_min2_int] | rw [w_max2_int] | rw [w_add_in (by omega) (by omega)] | rw [w_sub_in (by omega) (by omega)] | rw [w_mul_in (by omega) (by omega)] | rw [outP_enter])
      obtain ⟨clk', wset⟩ := w_set (H := G) (kt := 3) (et := 4) int_key hm (i : Int) (.bool true)
      rw [wset, outP_skip]
      have xs : Ext [] G4 (G.put mp (some (.mp (ents (setM M (i : Int) (.bool true) clk)) clk'))) := x.put (.inl (by omega)) _
      have hm' := get_put_same (H := G) mp (some (.mp (ents (setM M (i : Int) (.bool true) clk)) clk'))
      have hn' : mp < (G.put mp (some (.mp (ents (setM M (i : Int) (.bool true) clk)) clk'))).next := by rw [AH.next_put]; exact hml
      have hk' : keysM (setM M (i : Int) (.bool true) clk) = (orderM (vals Z) V).take (j + 1) := by
        rw [set_new hnew, hkeys, List.take_succ_eq_append_getElem (by omega), ei]
      generalize G.put mp (some (.mp (ents (setM M (i : Int) (.bool true) clk)) clk')) = Gm at *
      have dec : Z.length - ((j : Int) + 1).toNat < Z.length - (j : Int).toNat := by omega
      have go : rec (s1, v2, .int .i64 k, s4, .int .i64 (scF (vals Z) V k), .map (some mp), .int .i64 Z.length, .int .i64 ((j : Int) + 1)) Gm := hrec _ _ ⟨j + 1, _, _, by rfl, by omega, xs, hn', hm', hk'⟩ dec
      rw [w_gtr, outP_val]
      by_cases c0j : 0 < j
      · rw [decide_eq_true (by omega), condP_true, w_sub_in (by omega) (by omega), outP_val, show (j : Int) - 1 = ((j - 1 : Nat) : Int) by omega]
        obtain ⟨i0, hi0, ei0, eO0⟩ := orderM_at (M := vals Z) (V := V) (t := j - 1) (by omega)
        rw [hlm] at hi0
        have xm := x34.trans xs
        have i5m : Is .i64 Gm B4 s4 (orderM (vals Z) V) := Sl.mono o4.is xs (by simp)
        obtain ⟨q0, d1, _, d3⟩ := i5m.at (j := j - 1) (by omega)
        obtain ⟨q1, f1, _, f3⟩ := i5m.at (j := j) (by omega)
        rw [ei0] at d3
        rw [ei] at f3
        obtain ⟨p0, g1, g3⟩ := vat xm i0 hi0
        obtain ⟨p1, h1, h3⟩ := vat xm i hi
        have le := order_le (M := vals Z) (V := V) (t := j - 1) (u := j) (by omega) (by omega)
        rw [eO0, eO, leH_iff] at le
        simp only at le
        have ib : ∀ (z : Int), AV.beq (.int .i64 z) (.int .i64 z) = true := fun z => by simp [AV.beq, eqZ_eq, kEq]
        have sk := Sl.slk ((vs2.mono0 xm).el _ (List.getElem_mem hi)).is
        repeat (first | rw [outP_val] | rw [guardP_true] | rw [guardP_false] | rw [condP_true] | rw [d1] | rw [d3] | rw [g1] | rw [g3] | rw [f1] | rw [f3] | rw [h1] | rw [h3] | rw [condP_false] | rw [boolIs_bool] | rw [boolIs_undef] | rw [beq_tt] | rw [beq_ff] | rw [Bool.not_true] | rw [Bool.not_false] | rw [outP_skip] | rw [w_pick_b] | rw [if_pos rfl] | rw [if_neg Bool.false_ne_true] | rw [w_fieldAddr_ptr] | rw [w_nil_ptr] | rw [Nat.zero_add] | rw [w_load_c] | rw [w_load_n] | rw [vO_some] | rw [w_store_c] | rw [w_not] | rw [w_lss] | rw [w_leq] | rw [w_gtr] | rw [w_geq] | rw [w_eql] | rw [w_neq] | rw [w_cint] | rw [w_min2_int] | rw [w_max2_int] | rw [w_add_in (by omega) (by omega)] | rw [w_sub_in (by omega) (by omega)] | rw [w_mul_in (by omega) (by omega)])
        rw [outP_enter]
        refine sc xm i0 hi0 _ ?_
        rw [w_load_c, f3, vO_some, reC_val, ib, ckP_true, w_load_c, h3, vO_some, reC_val, beq_slk sk, ckP_true, outP_enter]
        refine sc xm i hi _ ?_
        rw [w_gtr, decide_eq_false (show ¬ (scF (vals Z) V i < scF (vals Z) V i0) by omega)]
        repeat (first | rw [outP_val] | rw [guardP_true] | rw [guardP_false] | rw [condP_true] | rw [condP_false] | rw [boolIs_bool] | rw [boolIs_undef] | rw [beq_tt] | rw [beq_ff] | rw [Bool.not_true] | rw [Bool.not_false] | rw [outP_skip] | rw [w_pick_b] | rw [if_pos rfl] | rw [if_neg Bool.false_ne_true] | rw [w_fieldAddr_ptr] | rw [w_nil_ptr] | rw [Nat.zero_add] | rw [w_load_c] | rw [w_load_n] | rw [vO_some] | rw [w_store_c] | rw [w_not] | rw [w_lss] | rw [w_leq] | rw [w_gtr] | rw [w_geq] | rw [w_neq] | rw [w_cint] | rw [w_min2_int] | rw [w_max2_int] | rw [w_add_in (by omega) (by omega)] | rw [w_sub_in (by omega) (by omega)] | rw [w_mul_in (by omega) (by omega)] | rw [outP_enter])
        rw [w_eql]
        by_cases q : scF (vals Z) V i0 = scF (vals Z) V i
        · rw [decide_eq_true q]
          repeat (first | rw [outP_val] | rw [guardP_true] | rw [guardP_false] | rw [condP_true] | rw [condP_false] | rw [boolIs_bool] | rw [boolIs_undef] | rw [beq_tt] | rw [beq_ff] | rw [Bool.not_true] | rw [Bool.not_false] | rw [outP_skip] | rw [w_pick_b] | rw [if_pos rfl] | rw [if_neg Bool.false_ne_true] | rw [w_fieldAddr_ptr] | rw [w_nil_ptr] | rw [Nat.zero_add] | rw [w_load_c] | rw [w_load_n] | rw [vO_some] | rw [w_store_c] | rw [w_not] | rw [w_lss] | rw [w_leq] | rw [w_gtr] | rw [w_geq] | rw [w_eql] | rw [w_neq] | rw [w_cint] | rw [w_min2_int] | rw [w_max2_int] | rw [w_add_in (by omega) (by omega)] | rw [w_mul_in (by omega) (by omega)] | rw [outP_enter])
          rw [w_sub_in (by omega) (by omega), outP_val, show (j : Int) - 1 = ((j - 1 : Nat) : Int) by omega]
          repeat (first | rw [outP_val] | rw [guardP_true] | rw [guardP_false] | rw [condP_true] | rw [d1] | rw [d3] | rw [f1] | rw [f3] | rw [condP_false] | rw [boolIs_bool] | rw [boolIs_undef] | rw [beq_tt] | rw [beq_ff] | rw [Bool.not_true] | rw [Bool.not_false] | rw [outP_skip] | rw [w_pick_b] | rw [if_pos rfl] | rw [if_neg Bool.false_ne_true] | rw [w_fieldAddr_ptr] | rw [w_nil_ptr] | rw [Nat.zero_add] | rw [w_load_c] | rw [w_load_n] | rw [vO_some] | rw [w_store_c] | rw [w_not] | rw [w_lss] | rw [w_leq] | rw [w_geq] | rw [w_eql] | rw [w_neq] | rw [w_cint] | rw [w_min2_int] | rw [w_max2_int] | rw [w_add_in (by omega) (by omega)] | rw [w_sub_in (by omega) (by omega)] | rw [w_mul_in (by omega) (by omega)] | rw [outP_enter])
          rw [w_gtr, decide_eq_false (show ¬ ((i : Int) < (i0 : Int)) by omega)]
          repeat (first | rw [outP_val] | rw [guardP_true] | rw [guardP_false] | rw [condP_true] | rw [condP_false] | rw [boolIs_bool] | rw [boolIs_undef] | rw [beq_tt] | rw [beq_ff] | rw [Bool.not_true] | rw [Bool.not_false] | rw [outP_skip] | rw [w_pick_b] | rw [if_pos rfl] | rw [if_neg Bool.false_ne_true] | rw [w_fieldAddr_ptr] | rw [w_nil_ptr] | rw [Nat.zero_add] | rw [w_load_c] | rw [w_load_n] | rw [vO_some] | rw [w_store_c] | rw [w_not] | rw [w_lss] | rw [w_leq] | rw [w_gtr] | rw [w_geq] | rw [w_eql] | rw [w_neq] | rw [w_cint] | rw [w_min2_int] | rw [w_max2_int] | rw [w_sub_in (by omega) (by omega)] | rw [w_mul_in (by omega) (by omega)] | rw [outP_enter])
          rw [w_add_in (by omega) (by omega), outP_val]
          exact go
        · rw [decide_eq_false q]
          repeat (first | rw [outP_val] | rw [guardP_true] | rw [guardP_false] | rw [condP_true] | rw [condP_false] | rw [boolIs_bool] | rw [boolIs_undef] | rw [beq_tt] | rw [beq_ff] | rw [Bool.not_true] | rw [Bool.not_false] | rw [outP_skip] | rw [w_pick_b] | rw [if_pos rfl] | rw [if_neg Bool.false_ne_true] | rw [w_fieldAddr_ptr] | rw [w_nil_ptr] | rw [Nat.zero_add] | rw [w_load_c] | rw [w_load_n] | rw [vO_some] | rw [w_store_c] | rw [w_not] | rw [w_lss] | rw [w_leq] | rw [w_gtr] | rw [w_geq] | rw [w_eql] | rw [w_neq] | rw [w_cint] | rw [w_min2_int] | rw [w_max2_int] | rw [w_sub_in (by omega) (by omega)] | rw [w_mul_in (by omega) (by omega)] | rw [outP_enter])
          rw [w_add_in (by omega) (by omega), outP_val]
          exact go
      · rw [decide_eq_false (by omega), condP_false, w_add_in (by omega) (by omega), outP_val]
        exact go
    · rw [decide_eq_false (by omega), outP_val, condP_false]
      exact hK _ ((x12.trans x34).trans x)
end
end Go.Ab
