/- slices.DeleteFunc at []int. -/
import Derived.Test.YtbahknfffhijlaaGreatDoorConcat
import Derived.Test.YtbahknfffhijlaaGreatDoorMDel
namespace Go.Ab
noncomputable section
open Go.Proofs
set_option maxRecDepth 10000
variable {H H' : AH}

/-- What is left. -/
def leftI (p : Int → Bool) (L : List Int) : List Int := L.filter fun x => !p x
theorem leftI_snoc (p : Int → Bool) (L : List Int) (j : Nat) (hj : j < L.length) : leftI p (L.take (j + 1)) = leftI p (L.take j) ++ (if p L[j] = true then [] else [L[j]]) := by
  unfold leftI
  rw [List.take_succ_eq_append_getElem hj, List.filter_append]
  congr 1
  cases h : p L[j] <;> simp [h]
theorem leftI_all {p : Int → Bool} {L : List Int} (h : ∀ x ∈ L, p x = false) : leftI p L = L := List.filter_eq_self.2 fun x hx => by rw [h x hx]; rfl
theorem idx_ints {B : Nat} {s fn : AV} {L : List Int} (p : Int → Bool) (h : Os 3 .i64 H B s L) (hL : L.length ≤ 1000000) (hf : ∀ (x : Int) (K : AV → AH → Prop), K (.bool (p x)) H → outP CC H (callV [.int .i64 x] fn) K) (K : AV → AH → Prop)
    (hK1 : (∀ x ∈ L, p x = false) → K (.int .i64 (-1)) H) (hK2 : ∀ j (hj : j < L.length), (∀ x ∈ L.take j, p x = false) → p L[j] = true → K (.int .i64 j) H) : CC.call 55 [s, fn] H K := by
  refine m_slices_IndexFunc_int_int_ok _ _ _ _ ?_
  unfold m_slices_IndexFunc_int_int m_slices_IndexFunc_int_intth
  rw [h.is.len ints_sl, outP_val]
  unfold m_slices_IndexFunc_int_intthtb
  refine loopP_rule (I := fun t G => ∃ j : Nat, t = (s, fn, .int .i64 L.length, .int .i64 j) ∧ j ≤ L.length ∧ G = H ∧ ∀ y ∈ L.take j, p y = false) (μ := fun t _ => match t.2.2.2 with | .int _ z => L.length - z.toNat | _ => 0) ?_ ⟨0, rfl, Nat.zero_le _, rfl, fun x hx => by simp at hx⟩
  rintro t G ⟨j, rfl, hj, rfl, hno⟩ rec hrec
  unfold m_slices_IndexFunc_int_intthtbl
  rw [w_lss, outP_val]
  by_cases cj : j < L.length
  · obtain ⟨o, a1, a2, a3⟩ := h.is.at cj
    rw [decide_eq_true (by omega), condP_true, a1, outP_val, w_load_c, a3, vO_some, outP_val]
    refine hf _ _ ?_
    cases c : p L[j] with
    | true => rw [condP_true]; exact hK2 j cj hno c
    | false =>
      rw [condP_false, w_add_in (by omega) (by omega), outP_val]
      refine hrec _ _ ⟨j + 1, by rfl, by omega, rfl, fun x hx => ?_⟩ ?_
      · rw [List.take_succ_eq_append_getElem cj, List.mem_append] at hx
        rcases hx with hx | hx
        · exact hno x hx
        · simp at hx; subst hx; exact c
      · show L.length - ((j : Int) + 1).toNat < L.length - (j : Int).toNat
        omega
  · rw [decide_eq_false (by omega), condP_false]
    exact hK1 fun y hy => hno y (by rw [List.take_of_length_le (by omega)]; exact hy)
theorem del_ints {B : Nat} {s fn : AV} {L : List Int} (p : Int → Bool) (h : Os 3 .i64 H B s L) (hL : L.length ≤ 1000000) (hf : ∀ (G : AH) (x : Int) (K : AV → AH → Prop), Ext [B] H G → K (.bool (p x)) G → outP CC G (callV [.int .i64 x] fn) K) (K : AV → AH → Prop)
    (hK : ∀ H' s', Ext [B] H H' → Is .i64 H' B s' (leftI p L) → K s' H') : CC.call 27 [s, fn] H K := by
  refine m_slices_DeleteFunc_int_int_ok _ _ _ _ ?_
  unfold m_slices_DeleteFunc_int_int m_slices_DeleteFunc_int_intt
  rw [outP_enter]
  refine idx_ints p h hL (fun x K q => hf H x K (Ext.refl _ _) q) _ (fun hall => ?_) fun i hi hno hyes => ?_
  · unfold m_slices_DeleteFunc_int_inttt
    rw [w_eql, outP_val, decide_eq_true rfl, condP_true]
    refine hK _ _ (Ext.refl _ _) ?_
    rw [leftI_all hall]; exact h.is
  · unfold m_slices_DeleteFunc_int_inttt
    rw [w_eql, outP_val, decide_eq_false (by omega), condP_false]
    unfold m_slices_DeleteFunc_int_intttth
    rw [w_add_in (by omega) (by omega), outP_val]
    unfold m_slices_DeleteFunc_int_intttthtb
    have hti : leftI p (L.take (i + 1)) = L.take i := by rw [leftI_snoc _ _ _ hi, leftI_all hno, hyes]; simp
    refine loopP_rule (I := fun t G => ∃ (k j : Nat) (X : List Int), t = (s, fn, .int .i64 k, .int .i64 j) ∧ j ≤ L.length ∧ k < j ∧ Ext [B] H G ∧ Os 3 .i64 G B s X ∧ X.length = L.length ∧ k = (leftI p (L.take j)).length ∧ X.take k = leftI p (L.take j) ∧ X.drop j = L.drop j)
      (μ := fun t _ => match t.2.2.2 with | .int _ z => L.length - z.toNat | _ => 0) ?_ ⟨i, i + 1, L, by rfl, by omega, by omega, Ext.refl _ _, h, rfl, by rw [hti, List.length_take]; omega, by rw [hti], rfl⟩
    rintro t G ⟨k, j, X, rfl, hj, hkj, x1, o1, hX, hk, hXk, hXj⟩ rec hrec
    unfold m_slices_DeleteFunc_int_intttthtbl
    rw [o1.is.len ints_sl, hX, outP_val, w_lss, outP_val]
    by_cases cj : j < L.length
    · rw [decide_eq_true (by omega), condP_true]
      unfold m_slices_DeleteFunc_int_intttthtblt
      have hXjj : X[j]'(by omega) = L[j] := by
        have e1 : X[j]? = (X.drop j)[0]? := by rw [List.getElem?_drop]; rfl
        have e2 : (X.drop j)[0]? = some L[j] := by rw [hXj, List.getElem?_drop, Nat.add_zero, List.getElem?_eq_getElem cj]
        rw [List.getElem?_eq_getElem (by omega)] at e1
        exact Option.some.inj (e1.trans e2)
      obtain ⟨q, a1, a2, a3⟩ := o1.is.at (j := j) (by omega)
      rw [hXjj] at a3
      rw [a1, outP_val, w_load_c, a3, vO_some, outP_val]
      refine hf G _ _ x1 ?_
      rw [w_not, outP_val]
      have hs := leftI_snoc p L j cj
      cases c : p L[j] with
      | false =>
        rw [Bool.not_false, condP_true]
        rw [c, if_neg (by simp)] at hs
        obtain ⟨r, b1, b2, b3, b4⟩ := o1.at (j := k) (by omega)
        obtain ⟨G2, c1, c2, c3, c4⟩ := b4 L[j]
        rw [b1, outP_val, w_store_c, c1, outP_skip, w_add_in (by omega) (by omega), outP_val]
        unfold m_slices_DeleteFunc_int_intttthtbltt
        rw [w_add_in (by omega) (by omega), outP_val]
        refine hrec _ _ ⟨k + 1, j + 1, X.set k L[j], by rfl, by omega, by omega, x1.trans c2, c4, by rw [List.length_set]; exact hX, by rw [hs, List.length_append, ← hk]; rfl, ?_, ?_⟩ ?_
        · have e : (X.set k L[j]).take (k + 1) = X.take k ++ [L[j]] := by
            rw [List.take_succ_eq_append_getElem (by rw [List.length_set]; omega), List.getElem_set_self, List.take_set_of_le (Nat.le_refl _)]
          rw [e, hXk, hs]
        · rw [List.drop_set_of_lt (by omega)]; exact drop_succ' hXj
        · show L.length - ((j : Int) + 1).toNat < L.length - (j : Int).toNat
          omega
      | true =>
        rw [Bool.not_true, condP_false]
        rw [c, if_pos rfl, List.append_nil] at hs
        unfold m_slices_DeleteFunc_int_intttthtbltt
        rw [w_add_in (by omega) (by omega), outP_val]
        refine hrec _ _ ⟨k, j + 1, X, by rfl, by omega, by omega, x1, o1, hX, by rw [hs]; exact hk, by rw [hs]; exact hXk, drop_succ' hXj⟩ ?_
        show L.length - ((j : Int) + 1).toNat < L.length - (j : Int).toNat
        omega
    · rw [decide_eq_false (by omega), condP_false]
      obtain ⟨s3, G2, b1, b2, b3, b4⟩ := Own.clearFrom o1 ints_sl int_el' (by omega) rfl rfl rfl (i := k) (by rw [List.length_map]; omega)
      rw [b1, outP_val, b2, outP_val]
      have e0 : (nums .i64 X).take k ++ List.replicate ((nums .i64 X).length - k) [AV.int .i64 0] = nums .i64 (X.take k ++ List.replicate (X.length - k) 0) := by
        simp [nums, List.map_take]
      rw [e0] at b4
      obtain ⟨s5, c1, c2⟩ := Is.cut (k := .i64) (Own.sl b4) k (by rw [List.length_append, List.length_take, List.length_replicate]; omega)
      refine st (c1 _) (hK _ _ (x1.trans b3) ?_)
      rw [List.take_append_of_le_length (by rw [List.length_take]; omega), List.take_take, Nat.min_self, hXk, List.take_of_length_le (show L.length ≤ j by omega)] at c2
      exact c2
end
end Go.Ab
