/- Vectors: what the layers above need. -/
import Derived.Test.YtcehnjmpllhieaaGreatDoorNums
import Derived.Test.YtcehnjmpllhieaaGreatDoorMC
namespace Go.Ab
noncomputable section
open Go.Proofs
set_option maxRecDepth 10000
variable {H H' : AH}

theorem i32_sl : PP.underlying 22 = some (.slice 21) := by kernel_rfl
theorem vec_sl : PP.underlying 23 = some (.slice 21) := by kernel_rfl
theorem u8_sl : PP.underlying 27 = some (.slice 5) := by kernel_rfl
theorem i32_el : elT PP 21 = some (1, [.int .i32 0]) := by kernel_rfl
theorem u8_el : elT PP 5 = some (1, [.int .u8 0]) := by kernel_rfl
theorem i32_by : byOf PP 21 = some 4 := by kernel_rfl
theorem u8_by : byOf PP 5 = some 1 := by kernel_rfl
/-- They fit. -/
abbrev In32 (L : List Int) : Prop := ∀ x ∈ L, -2147483648 ≤ x ∧ x ≤ 2147483647

theorem wrap64_32 {x : Int} (h : -2147483648 ≤ x ∧ x ≤ 2147483647) : IntKind.i64.wrap x = x := wrap64_in (by omega) (by omega)
theorem vecEq_wp {b b' : Nat} {s s' : AV} {L M : List Int} (h : Is .i32 H b s L) (h' : Is .i32 H b' s' M) (hL : L.length ≤ 9223372036854775807) (K : AV → AH → Prop) (hK : K (.bool (decide (L = M))) H) : CC.call 106 [s, s'] H K := by
  refine m_vect_Eq_ok _ _ _ _ ?_
  unfold m_vect_Eq
  rw [outP_enter]
  refine m_slices_Equal_api_Vec_int32_ok _ _ _ _ ?_
  unfold m_slices_Equal_api_Vec_int32 m_slices_Equal_api_Vec_int32t
  have l1 := h.len vec_sl
  have l2 := h'.len vec_sl
  rw [l1, outP_val, l2, outP_val, w_neq, outP_val]
  by_cases c : L.length = M.length
  · rw [decide_eq_true (by omega), Bool.not_true, condP_false]
    unfold m_slices_Equal_api_Vec_int32tth m_slices_Equal_api_Vec_int32tthtb
    rw [l1, outP_val]
    refine loopP_rule (I := fun t G => ∃ j : Nat, t = (s, s', .int .i64 L.length, .int .i64 j) ∧ G = H ∧ j ≤ L.length ∧ ∀ i (hi : i < L.length), i < j → L[i] = M[i]'(by omega)) (μ := fun t _ => match t.2.2.2 with | .int _ z => L.length - z.toNat | _ => 0) ?_ ⟨0, rfl, rfl, Nat.zero_le _, fun i hi q => absurd q (by omega)⟩
    rintro t G ⟨j, rfl, rfl, hj, hsame⟩ rec hrec
    unfold m_slices_Equal_api_Vec_int32tthtbl
    rw [w_lss, outP_val]
    by_cases cj : j < L.length
    · obtain ⟨o1, a1, a2, a3⟩ := h.at cj
      obtain ⟨o2, b1, b2, b3⟩ := h'.at (j := j) (by omega)
      rw [decide_eq_true (by omega), condP_true, a1, outP_val, w_load_c, a3, vO_some, outP_val, b1, outP_val, w_load_c, b3, vO_some, outP_val, w_neq, outP_val]
      by_cases q : L[j] = M[j]'(by omega)
      · rw [decide_eq_true q, Bool.not_true, condP_false, w_add_in (by omega) (by omega), outP_val]
        refine hrec _ _ ⟨j + 1, by rfl, rfl, by omega, fun i hi hij => ?_⟩ ?_
        · rcases Nat.lt_or_ge i j with r | r
          · exact hsame i hi r
          · have : i = j := by omega
            subst this; exact q
        · show L.length - ((j : Int) + 1).toNat < L.length - (j : Int).toNat
          omega
      · rw [decide_eq_false q, Bool.not_false, condP_true]
        have : ¬ L = M := fun e => q (by subst e; rfl)
        rw [decide_eq_false this] at hK; exact hK
    · rw [decide_eq_false (by omega), condP_false]
      have : L = M := List.ext_getElem c fun i h1 h2 => hsame i h1 (by omega)
      rw [decide_eq_true this] at hK; exact hK
  · rw [decide_eq_false (by omega), Bool.not_false, condP_true]
    have : ¬ L = M := fun q => c (by rw [q])
    rw [decide_eq_false this] at hK; exact hK

def SlK (s : AV) : Prop := s = .slice none 0 0 true ∨ (∃ b o, s = .tail b o) ∨ ∃ b o n c ex, s = .slice (some (b, o)) n c ex
theorem Sl.slk {sz b : Nat} {s : AV} {X : List (List AV)} (h : Sl H sz b s X) : SlK s := by
  obtain ⟨rfl | ⟨_, _, rfl⟩, _⟩ | ⟨o, c, ex, rfl, _, _⟩ := h.ex
  · exact .inl rfl
  · exact .inr (.inl ⟨_, _, rfl⟩)
  · exact .inr (.inr ⟨_, _, _, _, _, rfl⟩)
theorem beq_slk {s : AV} (h : SlK s) : AV.beq s s = true := by
  rcases h with rfl | ⟨_, _, rfl⟩ | ⟨_, _, _, _, ex, rfl⟩
  · rfl
  · simp [AV.beq]
  · cases ex <;> simp [AV.beq]
theorem beq_str (a : List UInt8) : AV.beq (.str a) (.str a) = true := by simp [AV.beq, strEq_eq]
theorem push_num_at {e by_ : Nat} {k : IntKind} (he : elT PP e = some (1, [.int k 0])) (hby : by_ ≤ 8) {B : Nat} {s : AV} {L : List Int} (ho : Os e k H B s L) (hL : L.length ≤ 100000) (hBn : B < H.next ∨ L = []) (x : Int) (K : AV → AH → Prop)
    (hK : ∀ H' s' B', Ext [B] H H' → (B' = B ∨ H.next ≤ B') → Os e k H' B' s' (L ++ [x]) → K s' H') :
    outP CC (H.more 1) (w_buildSlice PP e 1 (H.more 1) [(0, .int k x)] (some H.next)) fun v G => outP CC G (w_append e 1 by_ G s v none) K := by
  refine st (bs_num_at he x _) ?_
  obtain ⟨B0, hB0, hne, ho⟩ : ∃ B0, (B0 = B ∨ H.next ≤ B0) ∧ B0 ≠ H.next ∧ Os e k H B0 s L := by
    rcases ho.ex with ⟨h1, h2⟩ | ⟨o, c, ex, cs, h1, h2, h3, h4, h5, h6, h7⟩
    · refine ⟨H.next + 1, .inr (by omega), by omega, ?_⟩
      have : L = [] := by simpa using h2
      subst this; subst h1
      exact os_nil _ _ _
    · exact ⟨B, .inl rfl, by omega, ho⟩
  have x1 : Ext [] H ((H.more 1).put H.next (some (.cells e [.int k x]))) := ((Ext.refl _ _).more 1).put (.inl (Nat.le_refl _)) _
  have o1 : Os e k ((H.more 1).put H.next (some (.cells e [.int k x]))) H.next (.slice (some (H.next, 0)) 1 1 true) [x] :=
    ⟨.inr ⟨0, 1, true, _, rfl, get_put_same _ _, Nat.le_refl _, Nat.le_refl _, fun q => (by cases q), rfl, by rw [AH.next_put, next_more]; omega⟩, by simp, by simp [AV.known], by simp [AV.one]⟩
  obtain ⟨s', H', B', e1, e2, e3, e4⟩ := (Own.mono ho x1 (by simp)).append (by_ := by_) (Own.sl o1) (by omega) (by
    simp only [List.length_map, List.length_singleton]
    have : (2 * (L.length + 1) + 1024) * by_ ≤ (2 * (L.length + 1) + 1024) * 8 := Nat.mul_le_mul_left _ hby
    omega)
  rw [AH.next_put, next_more] at e3
  refine st e1 ?_
  have hO : Os e k H' B' s' (L ++ [x]) := by
    show Own _ _ _ _ _ _
    rw [show nums k (L ++ [x]) = nums k L ++ nums k [x] from List.map_append]; exact e4
  refine hK _ _ B' ?_ ?_ hO
  · refine ((x1.mono (m' := [B0]) (by simp)).trans e2).mono fun b hb hlt => ?_
    simp at hb ⊢; omega
  · omega
end
end Go.Ab
