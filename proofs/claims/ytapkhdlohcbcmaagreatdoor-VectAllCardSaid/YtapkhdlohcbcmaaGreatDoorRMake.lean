/- The document's MakeBook and MayVec; are two books the same? -/
import Derived.Test.YtapkhdlohcbcmaaGreatDoorMake
namespace Go.Ab
noncomputable section
open Go.Proofs
set_option maxRecDepth 10000
variable {H H' : AH}

theorem rMay_wp {b : Nat} {s : AV} {V : List Int} (h : Is .i32 H b s V) (dim : Int) (K : AV → AH → Prop) (hK : K (.bool (mayB V dim)) H) : CC.call 27 [s, .int .i64 dim] H K := by
  refine m_fieldfareref1_MayVec_ok _ _ _ _ ?_
  unfold m_fieldfareref1_MayVec m_fieldfareref1_MayVect
  have l1 := h.len vec_sl
  have key := mayB_iff V dim
  have no : ¬ mayB V dim = true → mayB V dim = false := fun q => by cases r : mayB V dim with | true => exact absurd r q | false => rfl
  rw [w_lss, outP_val, boolIs_bool, beq_ff]
  by_cases c1 : dim < 1
  · have e := no fun q => by have := key.1 q; omega
    rw [e] at hK
    rw [decide_eq_true c1, Bool.not_true, guardP_false, guardP_false, w_pick_b, outP_val, if_pos rfl, boolIs_bool, beq_ff, Bool.not_true, guardP_false, guardP_false, guardP_false, guardP_false, w_pick_b, outP_val, if_pos rfl, condP_true]
    exact hK
  · rw [decide_eq_false c1, Bool.not_false, guardP_true, outP_val, guardP_true, w_gtr, outP_val, w_pick_b, outP_val, if_neg (by simp), boolIs_bool, beq_ff]
    by_cases c2 : 8 < dim
    · have e := no fun q => by have := key.1 q; omega
      rw [e] at hK
      rw [decide_eq_true c2, Bool.not_true, guardP_false, guardP_false, guardP_false, guardP_false, w_pick_b, outP_val, if_pos rfl, condP_true]
      exact hK
    · rw [decide_eq_false c2, Bool.not_false, guardP_true, outP_val, guardP_true, l1, outP_val, guardP_true, outP_val, guardP_true, w_neq, outP_val, w_pick_b, outP_val, if_neg (by simp)]
      by_cases c3 : (V.length : Int) = dim
      · rw [decide_eq_true c3, Bool.not_true, condP_false]
        unfold m_fieldfareref1_MayVectth m_fieldfareref1_MayVectthtb
        rw [l1, outP_val]
        refine loopP_rule (I := fun t G => ∃ j : Nat, t = (s, .int .i64 V.length, .int .i64 j) ∧ j ≤ V.length ∧ G = H ∧ ∀ x ∈ V.take j, -1048576 ≤ x ∧ x ≤ 1048576) (μ := fun t _ => match t.2.2 with | .int _ z => V.length - z.toNat | _ => 0) ?_ ⟨0, rfl, Nat.zero_le _, rfl, fun x hx => by simp at hx⟩
        rintro t G ⟨j, rfl, hj, rfl, hall⟩ rec hrec
        unfold m_fieldfareref1_MayVectthtbl
        rw [w_lss, outP_val]
        by_cases cj : j < V.length
        · obtain ⟨o, a1, a2, a3⟩ := h.at cj
          have bad : ¬ (-1048576 ≤ V[j] ∧ V[j] ≤ 1048576) → mayB V dim = false := fun q => no fun r => q ((key.1 r).2.2.2 _ (List.getElem_mem cj))
          rw [decide_eq_true (by omega), condP_true, a1, outP_val, w_load_c, a3, vO_some, outP_val, w_lss, outP_val, boolIs_bool, beq_ff]
          by_cases c4 : V[j] < -1048576
          · rw [bad (by omega)] at hK
            rw [decide_eq_true c4, Bool.not_true, guardP_false, guardP_false, guardP_false, guardP_false, guardP_false, w_pick_b, outP_val, if_pos rfl, condP_true]
            exact hK
          · rw [decide_eq_false c4, Bool.not_false, guardP_true, outP_val, guardP_true, outP_val, guardP_true, a1, outP_val, guardP_true, w_load_c, a3, vO_some, outP_val, guardP_true, w_gtr, outP_val, w_pick_b, outP_val, if_neg (by simp)]
            by_cases c5 : 1048576 < V[j]
            · rw [bad (by omega)] at hK
              rw [decide_eq_true c5, condP_true]; exact hK
            · rw [decide_eq_false c5, condP_false, w_add_in (by omega) (by omega), outP_val]
              refine hrec _ _ ⟨j + 1, by rfl, by omega, rfl, fun x hx => ?_⟩ ?_
              · rw [List.take_succ_eq_append_getElem cj, List.mem_append] at hx
                rcases hx with hx | hx
                · exact hall x hx
                · simp at hx; omega
              · show V.length - ((j : Int) + 1).toNat < V.length - (j : Int).toNat
                omega
        · rw [decide_eq_false (by omega), condP_false]
          rw [List.take_of_length_le (by omega)] at hall
          rw [key.2 ⟨by omega, by omega, c3, hall⟩] at hK
          exact hK
      · have e := no fun q => by have := key.1 q; omega
        rw [e] at hK
        rw [decide_eq_false c3, Bool.not_false, condP_true]
        exact hK

theorem push_at {e by_ : Nat} {k : IntKind} (he : elT PP e = some (1, [.int k 0])) (hby : by_ ≤ 8) {B b : Nat} {s : AV} {L : List Int} (ho : Os e k H B s L) (hL : L.length ≤ 100000) (hb : b < H.next) (hne : B ≠ b) (x : Int) :
    ∃ H', w_buildSlice PP e 1 H [(0, .int k x)] (some b) = some (.val (.slice (some (b, 0)) 1 1 true) H') ∧ Ext [b] H H' ∧ H'.next = H.next ∧
      ∃ s' H2 B', w_append e 1 by_ H' s (.slice (some (b, 0)) 1 1 true) none = some (.val s' H2) ∧ Ext [b, B] H H2 ∧ (B' = B ∨ H.next ≤ B') ∧ Os e k H2 B' s' (L ++ [x]) := by
  have x1 : Ext [b] H (H.put b (some (.cells e [.int k x]))) := (Ext.refl _ _).put (.inr (by simp)) _
  have o1 : Os e k (H.put b (some (.cells e [.int k x]))) b (.slice (some (b, 0)) 1 1 true) [x] :=
    ⟨.inr ⟨0, 1, true, _, rfl, get_put_same _ _, Nat.le_refl _, Nat.le_refl _, fun q => (by cases q), rfl, by rw [AH.next_put]; exact hb⟩, by simp, by simp [AV.known], by simp [AV.one]⟩
  obtain ⟨s', H2, B', e1, e2, e3, e4⟩ := (Own.mono ho x1 (by simp; exact hne)).append (by_ := by_) (Own.sl o1) (by omega) (by
    simp only [List.length_map, List.length_singleton]
    have : (2 * (L.length + 1) + 1024) * by_ ≤ (2 * (L.length + 1) + 1024) * 8 := Nat.mul_le_mul_left _ hby
    omega)
  rw [AH.next_put] at e3
  refine ⟨_, bs_num_at he x b, x1, AH.next_put _ _ _, s', H2, B', e1, (x1.mono (by simp)).trans (e2.mono (by simp)), e3, ?_⟩
  show Own _ _ _ _ _ _
  rw [show nums k (L ++ [x]) = nums k L ++ nums k [x] from List.map_append]; exact e4

def lhF (Z : List (List Int)) (i : Nat) : Int × Int := lhS Z i Z.length
theorem lhS_append (Z W : List (List Int)) (i : Nat) : ∀ k, k ≤ Z.length → lhS (Z ++ W) i k = lhS Z i k
  | 0, _ => rfl
  | k + 1, hk => by
    have ih := lhS_append Z W i k (by omega)
    have e : (Z ++ W).getD k [] = Z.getD k [] := by rw [List.getD_eq_getElem?_getD, List.getD_eq_getElem?_getD, List.getElem?_append_left (by omega)]
    unfold lhS
    rw [e, ih]
theorem lhF_snoc (Z : List (List Int)) (V : List Int) (i : Nat) : lhF (Z ++ [V]) i = (min (if Z.length = 0 then V.getD i 0 else (lhF Z i).1) (V.getD i 0), max (if Z.length = 0 then V.getD i 0 else (lhF Z i).2) (V.getD i 0)) := by
  unfold lhF
  rw [List.length_append, List.length_singleton]
  have e : (Z ++ [V]).getD Z.length [] = V := by rw [List.getD_eq_getElem?_getD, List.getElem?_append_right (Nat.le_refl _), Nat.sub_self]; rfl
  have := lhS_append Z [V] i Z.length (Nat.le_refl _)
  show (_, _) = (_, _)
  rw [e, this]
theorem goodL_snoc (Y : List Vq) (dim : Int) (j : Nat) (hj : j < Y.length) : goodL (Y.take (j + 1)) dim = goodL (Y.take j) dim ++ (if mayB Y[j].2.2 dim = true then [Y[j].2.2] else []) := by
  unfold goodL
  rw [goodV_snoc _ _ _ hj, List.map_append]
  cases mayB Y[j].2.2 dim <;> rfl
theorem lhF_in {Y : List Vq} {dim : Int} (i : Nat) : -1048576 ≤ (lhF (goodL Y dim) i).1 ∧ (lhF (goodL Y dim) i).1 ≤ (lhF (goodL Y dim) i).2 ∧ (lhF (goodL Y dim) i).2 ≤ 1048576 := lhS_in (fun V q => (goodL_in Y dim V q).2) i _
theorem rbook_zero : w_build PP 54 H [] = some (.val (.agg [.slice none 0 0 true, .slice none 0 0 true]) H) := by kernel_rfl

end
end Go.Ab
