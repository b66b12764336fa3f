/- quant: bounds; are two vectors one; QuantAny: what it does, at any input. -/
import Derived.Test.YtbahknfffhijlaaGreatDoorQuantC
namespace Go.Ab
noncomputable section
open Go.Proofs
set_option maxRecDepth 10000
variable {H H' : AH}

def boundL (Lo St : List Int) : Int := if rightB Lo St = true then St.foldl (fun n x => max n ((x + 1) / 2)) 0 else 0
theorem bound_facts : ∀ (L : List Int) (n : Int), n ≤ L.foldl (fun n x => max n ((x + 1) / 2)) n ∧ (∀ x ∈ L, (x + 1) / 2 ≤ L.foldl (fun n x => max n ((x + 1) / 2)) n) ∧ (L.foldl (fun n x => max n ((x + 1) / 2)) n = n ∨ ∃ x ∈ L, L.foldl (fun n x => max n ((x + 1) / 2)) n = (x + 1) / 2)
  | [], n => ⟨Int.le_refl _, by simp, .inl rfl⟩
  | y :: L, n => by
    obtain ⟨h1, h2, h3⟩ := bound_facts L (max n ((y + 1) / 2))
    rw [List.foldl_cons]
    generalize L.foldl (fun n x => max n ((x + 1) / 2)) (max n ((y + 1) / 2)) = F at *
    refine ⟨by omega, fun x hx => ?_, ?_⟩
    · rcases List.mem_cons.1 hx with rfl | hx
      · omega
      · exact h2 x hx
    · rcases h3 with h3 | ⟨x, hx, h3⟩
      · rcases Int.le_total n ((y + 1) / 2) with q | q
        · exact .inr ⟨y, by simp, by omega⟩
        · exact .inl (by omega)
      · exact .inr ⟨x, by simp [hx], h3⟩
theorem boundL_max {Lo St : List Int} (hr : rightB Lo St = true) {m : Int} (hm : m ∈ St) (hall : ∀ x ∈ St, x ≤ m) : boundL Lo St = (m + 1) / 2 := by
  have hp := ((rightB_iff _ _).1 hr).2 m hm
  obtain ⟨h1, h2, h3⟩ := bound_facts St 0
  unfold boundL
  rw [if_pos hr]
  generalize St.foldl (fun n x => max n ((x + 1) / 2)) 0 = F at *
  have := h2 m hm
  rcases h3 with h3 | ⟨x, hx, h3⟩
  · omega
  · have := hall x hx; omega
theorem wrap32_31 {x : Int} (h : -2147483648 ≤ x ∧ x ≤ 2147483647) : IntKind.i32.wrap x = x := wrap32_in (by omega) (by omega)
/-! Are two vectors one? -/
theorem vecEq_wp {b b' : Nat} {s s' : AV} {L M : List Int} (h : Is .i32 H b s L) (h' : Is .i32 H b' s' M) (hL : L.length ≤ 1000000) (K : AV → AH → Prop) (hK : K (.bool (decide (L = M))) H) : CC.call 46 [s, s'] H K := by
  refine m_vect_Eq_ok _ _ _ _ ?_
  unfold m_vect_Eq
  rw [outP_enter]
  refine m_slices_Equal_api_Vec_int32_ok _ _ _ _ ?_
  unfold m_slices_Equal_api_Vec_int32 m_slices_Equal_api_Vec_int32t
  have l1 := h.len vec_sl
  have l2 := h'.len vec_sl
  rw [l1, outP_val, l2, outP_val, w_neq, outP_val]
  by_cases c : L.length = M.length
  · rw [decide_eq_true (by omega), Bool.not_true, condP_false]
    unfold m_slices_Equal_api_Vec_int32tth m_slices_Equal_api_Vec_int32tthtb
    rw [l1, outP_val]
    refine loopP_rule (I := fun t G => ∃ j : Nat, t = (s, s', .int .i64 L.length, .int .i64 j) ∧ G = H ∧ j ≤ L.length ∧ ∀ i (hi : i < L.length), i < j → L[i] = M[i]'(by omega)) (μ := fun t _ => match t.2.2.2 with | .int _ z => L.length - z.toNat | _ => 0) ?_ ⟨0, rfl, rfl, Nat.zero_le _, fun i hi q => absurd q (by omega)⟩
    rintro t G ⟨j, rfl, rfl, hj, hsame⟩ rec hrec
    unfold m_slices_Equal_api_Vec_int32tthtbl
    rw [w_lss, outP_val]
    by_cases cj : j < L.length
    · obtain ⟨o1, a1, a2, a3⟩ := h.at cj
      obtain ⟨o2, b1, b2, b3⟩ := h'.at (j := j) (by omega)
      rw [decide_eq_true (by omega), condP_true, a1, outP_val, w_load_c, a3, vO_some, outP_val, b1, outP_val, w_load_c, b3, vO_some, outP_val, w_neq, outP_val]
      by_cases q : L[j] = M[j]'(by omega)
      · rw [decide_eq_true q, Bool.not_true, condP_false, w_add_in (by omega) (by omega), outP_val]
        refine hrec _ _ ⟨j + 1, by rfl, rfl, by omega, fun i hi hij => ?_⟩ ?_
        · rcases Nat.lt_or_ge i j with r | r
          · exact hsame i hi r
          · have : i = j := by omega
            subst this; exact q
        · show L.length - ((j : Int) + 1).toNat < L.length - (j : Int).toNat
          omega
      · rw [decide_eq_false q, Bool.not_false, condP_true]
        have : ¬ L = M := fun e => q (by subst e; rfl)
        rw [decide_eq_false this] at hK; exact hK
    · rw [decide_eq_false (by omega), condP_false]
      have : L = M := List.ext_getElem c fun i h1 h2 => hsame i h1 (by omega)
      rw [decide_eq_true this] at hK; exact hK
  · rw [decide_eq_false (by omega), Bool.not_false, condP_true]
    have : ¬ L = M := fun q => c (by rw [q])
    rw [decide_eq_false this] at hK; exact hK

/-! The law. -/
def SlK (s : AV) : Prop := s = .slice none 0 0 true ∨ (∃ b o, s = .tail b o) ∨ ∃ b o n c ex, s = .slice (some (b, o)) n c ex
theorem Sl.slk {sz b : Nat} {s : AV} {X : List (List AV)} (h : Sl H sz b s X) : SlK s := by
  obtain ⟨rfl | ⟨_, _, rfl⟩, _⟩ | ⟨o, c, ex, rfl, _, _⟩ := h.ex
  · exact .inl rfl
  · exact .inr (.inl ⟨_, _, rfl⟩)
  · exact .inr (.inr ⟨_, _, _, _, _, rfl⟩)
theorem book_build {s1 s2 : AV} (h1 : SlK s1) (h2 : SlK s2) : w_build PP 55 H [(0, s1), (1, s2)] = some (.val (.agg [s1, s2]) H) := by
  rcases h1 with rfl | ⟨_, _, rfl⟩ | ⟨_, _, _, _, _, rfl⟩ <;> rcases h2 with rfl | ⟨_, _, rfl⟩ | ⟨_, _, _, _, _, rfl⟩ <;> kernel_rfl
theorem beq_slk {s : AV} (h : SlK s) : AV.beq s s = true := by
  rcases h with rfl | ⟨_, _, rfl⟩ | ⟨_, _, _, _, ex, rfl⟩
  · rfl
  · simp [AV.beq]
  · cases ex <;> simp [AV.beq]
theorem beq_two {s1 s2 : AV} (h1 : SlK s1) (h2 : SlK s2) : AV.beq (.agg [s1, s2]) (.agg [s1, s2]) = true := by
  simp [AV.beq, AV.beqL, beq_slk h1, beq_slk h2]
theorem beq_str (a : List UInt8) : AV.beq (.str a) (.str a) = true := by simp [AV.beq, strEq_eq]
end
end Go.Ab
