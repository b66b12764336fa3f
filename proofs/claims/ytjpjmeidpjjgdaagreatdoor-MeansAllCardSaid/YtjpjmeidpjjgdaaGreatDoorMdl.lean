/- means.middle: what it tells. -/
import Derived.Test.YtjpjmeidpjjgdaaGreatDoorOrd
import Derived.Test.YtjpjmeidpjjgdaaGreatDoorMMdl
namespace Go.Ab
noncomputable section
open Go.Proofs
set_option maxRecDepth 10000
variable {H H' : AH}

/-! Plain. -/
def sumM (L : List (List Int)) (i : Nat) : Int := (L.map fun V => V.getD i 0).sum
theorem sumM_snoc (L : List (List Int)) (V : List Int) (i : Nat) : sumM (L ++ [V]) i = sumM L i + V.getD i 0 := by simp [sumM]
def midV (M : List Int) (L : List (List Int)) : List Int := if L = [] then M else (List.range M.length).map fun i => sumM L i / (L.length : Int)
theorem getD_32 {V : List Int} (h : In32 V) (i : Nat) : -2147483648 ≤ V.getD i 0 ∧ V.getD i 0 ≤ 2147483647 := by
  rw [List.getD_eq_getElem?_getD]
  cases q : V[i]? with
  | none => constructor <;> decide
  | some x => exact h x (List.mem_of_getElem? q)
theorem sumM_bnd {a b : Int} {i : Nat} : ∀ {L : List (List Int)}, (∀ V ∈ L, a ≤ V.getD i 0 ∧ V.getD i 0 ≤ b) → a * (L.length : Int) ≤ sumM L i ∧ sumM L i ≤ b * (L.length : Int)
  | [], _ => by simp [sumM]
  | V :: L, h => by
    have ih := sumM_bnd (L := L) fun W hW => h W (by simp [hW])
    have hV := h V (by simp)
    have e : sumM (V :: L) i = V.getD i 0 + sumM L i := by simp [sumM]
    rw [e, List.length_cons, Int.natCast_add, Int.mul_add, Int.mul_add, Int.natCast_one, Int.mul_one, Int.mul_one]
    omega
theorem mean_bnd {a b : Int} {i : Nat} {L : List (List Int)} (h : ∀ V ∈ L, a ≤ V.getD i 0 ∧ V.getD i 0 ≤ b) (hne : L ≠ []) : a ≤ sumM L i / (L.length : Int) ∧ sumM L i / (L.length : Int) ≤ b := by
  have := sumM_bnd h
  have hp : (0 : Int) < L.length := by have := List.length_pos_iff.2 hne; omega
  constructor
  · exact (Int.le_ediv_iff_mul_le hp).2 this.1
  · have := Int.ediv_le_ediv hp this.2
    rwa [Int.mul_ediv_cancel _ (by omega)] at this
theorem midV_len (M : List Int) (L : List (List Int)) : (midV M L).length = M.length := by
  unfold midV; split <;> simp
theorem midV_32 {M : List Int} {L : List (List Int)} (hM : In32 M) (h : ∀ V ∈ L, In32 V) : In32 (midV M L) := by
  unfold midV
  by_cases c : L = []
  · rw [if_pos c]; exact hM
  · rw [if_neg c]
    intro x hx
    obtain ⟨i, _, rfl⟩ := List.mem_map.1 hx
    exact mean_bnd (fun V hV => getD_32 (h V hV) i) c
theorem floorM_wp {a b : Int} (hb : 0 < b) (ha : -4611686018427387904 ≤ a ∧ a ≤ 4611686018427387904) (K : AV → AH → Prop) (hK : K (.int .i64 (a / b)) H) : CC.call 82 [.int .i64 a, .int .i64 b] H K := by
  refine m_means_floor_ok _ _ _ _ ?_
  unfold m_means_floor
  have h1 := Int.natAbs_tdiv_le_natAbs a b
  have h2 := floor_eq (a := a) hb
  have hne : b ≠ 0 := by omega
  rw [w_quo _ _ _ hne, outP_val, wrap64_in (by omega) (by omega), w_rem _ _ _ hne, outP_val, w_lss, outP_val]
  by_cases c : a.tmod b < 0
  · rw [decide_eq_true c, condP_true, w_sub, outP_val, wrap64_in (by omega) (by omega)]
    rw [if_pos c] at h2; rw [h2]; exact hK
  · rw [decide_eq_false c, condP_false]
    rw [if_neg c] at h2; rw [h2]; exact hK
theorem middle_wp {bm b : Nat} {m s : AV} {M : List Int} {Y : List Vq} (hm : Is .i32 H bm m M) (hM : M.length ≤ 1000) (h : Vs H b s Y) (K : AV → AH → Prop)
    (h0 : Y = [] → K m H) (h1 : Y ≠ [] → ∀ H' s' B', Ext [] H H' → H.next ≤ B' → Os 21 .i32 H' B' s' (midV M (vals Y)) → K s' H') : CC.call 49 [m, s] H K := by
  refine m_means_middle_ok _ _ _ _ ?_
  unfold m_means_middle m_means_middlet
  have hL := h.len
  rw [vrow_len h.sl, outP_val, w_eql, outP_val]
  by_cases c : Y = []
  · rw [decide_eq_true (by rw [c]; rfl), condP_true]; exact h0 c
  · have yp := List.length_pos_iff.2 c
    rw [decide_eq_false (by omega), condP_false]
    unfold m_means_middlett
    obtain ⟨G, q1, x1, n1, o1⟩ := make_nums (H := H) i32_el i32_by (by omega) (n := M.length) (by omega)
    rw [hm.len vec_sl, outP_val, q1, outP_val]
    generalize hout : (AV.slice (some (H.next, 0)) M.length M.length true) = out at *
    have hout' := hout
    unfold m_means_middlettth
    have eM : midV M (vals Y) = (List.range M.length).map fun i => sumM (vals Y) i / ((vals Y).length : Int) := by unfold midV; rw [if_neg (fun q => c (List.map_eq_nil_iff.1 q))]
    have lv : (vals Y).length = Y.length := by simp
    rw [lv] at eM
    rw [← fillTo_zero (fun i => sumM (vals Y) i / (Y.length : Int)) M.length] at o1
    have lo1 := o1.is.len vec_sl
    rw [fillTo_len] at lo1
    rw [lo1, outP_val]
    unfold m_means_middlettthtb
    refine loopP_rule (I := fun t G' => ∃ j : Nat, t = (s, out, .int .i64 M.length, .int .i64 j) ∧ j ≤ M.length ∧ Ext [] H G' ∧ Os 21 .i32 G' H.next out (fillTo (fun i => sumM (vals Y) i / (Y.length : Int)) M.length j))
      (μ := fun t _ => match t.2.2.2 with | .int _ z => M.length - z.toNat | _ => 0) ?_ ⟨0, rfl, Nat.zero_le _, x1, o1⟩
    rintro t G1 ⟨j, rfl, hj, x, o⟩ rec hrec
    unfold m_means_middlettthtbl
    rw [w_lss, outP_val]
    unfold m_means_middlettthtblt
    by_cases cj : j < M.length
    · rw [decide_eq_true (by omega), condP_true]
      unfold m_means_middlettthtbltthb m_means_middlettthtbltthbt m_means_middlettthtbltthbtth
      have vx := h.mono0 x
      rw [vrow_len vx.sl, outP_val]
      unfold m_means_middlettthtbltthbtthtb
      refine loopP_rule (I := fun t G' => ∃ k : Nat, t = (s, out, .int .i64 j, .int .i64 (sumM ((vals Y).take k) j), .int .i64 M.length, .int .i64 j, s, .int .i64 Y.length, .int .i64 k) ∧ k ≤ Y.length ∧ G' = G1)
        (μ := fun t _ => match t.2.2.2.2.2.2.2.2 with | .int _ z => Y.length - z.toNat | _ => 0) ?_ ⟨0, rfl, Nat.zero_le _, rfl⟩
      rintro t G2 ⟨k, rfl, hk, rfl⟩ rec2 hrec2
      unfold m_means_middlettthtbltthbtthtbl
      dsimp only
      rw [w_lss, outP_val]
      have bnd := sumM_bnd (L := (vals Y).take k) (i := j) fun V hV => by
        obtain ⟨y, hy, rfl⟩ := List.mem_map.1 (List.mem_of_mem_take hV)
        exact getD_32 (h.el y hy).in32 j
      rw [List.length_take] at bnd
      by_cases ck : k < Y.length
      · obtain ⟨p, a1, _, a3⟩ := vrow_at vx.sl ck
        have he := vx.el _ (List.getElem_mem ck)
        have e : sumM ((vals Y).take (k + 1)) j = sumM ((vals Y).take k) j + Y[k].2.2.getD j 0 := by
          rw [List.take_succ_eq_append_getElem (by rw [lv]; exact ck), sumM_snoc]; simp
        have dec : Y.length - ((k : Int) + 1).toNat < Y.length - (k : Int).toNat := by omega
        rw [decide_eq_true (by omega), condP_true, a1, outP_val, w_load_c, a3, vO_some, outP_val, he.is.len vec_sl, outP_val, w_lss, outP_val]
        by_cases cl : j < Y[k].2.2.length
        · obtain ⟨q, d1, _, d3⟩ := he.is.at cl
          have hx := he.in32 _ (List.getElem_mem cl)
          rw [decide_eq_true (by omega), condP_true, d1, outP_val, w_load_c, d3, vO_some, outP_val, w_cint, outP_val, wrap64_32 hx, w_add_in (by omega) (by omega), outP_val, w_add_in (by omega) (by omega), outP_val]
          refine hrec2 _ _ ⟨k + 1, ?_, by omega, rfl⟩ dec
          rw [e, getD_at cl]; rfl
        · rw [decide_eq_false (by omega), condP_false, w_add_in (by omega) (by omega), outP_val]
          refine hrec2 _ _ ⟨k + 1, ?_, by omega, rfl⟩ dec
          rw [e, show Y[k].2.2.getD j 0 = 0 by rw [List.getD_eq_getElem?_getD, List.getElem?_eq_none (by omega)]; rfl, Int.add_zero]; rfl
      · rw [decide_eq_false (by omega), condP_false]
        obtain rfl : k = Y.length := by omega
        rw [List.take_of_length_le (by rw [lv]; exact Nat.le_refl _)] at bnd ⊢
        rw [vrow_len vx.sl, outP_val, outP_enter]
        refine floorM_wp (by omega) (by omega) _ ?_
        have mb := mean_bnd (L := vals Y) (i := j) (a := -2147483648) (b := 2147483647) (fun V hV => by
          obtain ⟨y, hy, rfl⟩ := List.mem_map.1 hV
          exact getD_32 (h.el y hy).in32 j) (fun q => c (List.map_eq_nil_iff.1 q))
        rw [lv] at mb
        obtain ⟨p, b1, b2, b3, b4⟩ := o.at (j := j) (by rw [fillTo_len]; exact cj)
        obtain ⟨G3, c1, c2, c3, c4⟩ := b4 (sumM (vals Y) j / (Y.length : Int))
        rw [fillTo_set (fun i => sumM (vals Y) i / (Y.length : Int))] at c4
        rw [w_cint, outP_val, wrap32_in mb.1 mb.2, b1, outP_val, w_store_c, c1, outP_skip, w_add_in (by omega) (by omega), outP_val]
        refine hrec _ _ ⟨j + 1, by rfl, by omega, (x.mono (m' := [H.next]) (by simp)).trans c2 |>.mono fun b hb hlt => (by simp at hb; omega), c4⟩ ?_
        show M.length - ((j : Int) + 1).toNat < M.length - (j : Int).toNat
        omega
    · rw [decide_eq_false (by omega), condP_false]
      obtain rfl : j = M.length := by omega
      rw [fillTo_all, ← eM] at o
      exact h1 c _ _ _ x (Nat.le_refl _) o
end
end Go.Ab
