/- Hits: are two slices of hits the same? -/
import Derived.Test.YtoafnnphjbdedaaGreatDoorMo
namespace Go.Ab
noncomputable section
open Go.Proofs
set_option maxRecDepth 10000
variable {H H' : AH}

theorem IsBest.low {p B k : Nat} {L : List (Int × Int)} (h : IsBest H p B k L) : B < H.next ∨ L = [] := by
  obtain ⟨s, h1, h2⟩ := h.ex
  obtain ⟨rfl, rfl⟩ | ⟨o, c, cs, rfl, h1, h2, h0, h3, h4, h5⟩ := h2.ex
  · exact .inr rfl
  · exact .inl h5
theorem IsBest.mono' {p B k : Nat} {L : List (Int × Int)} (h : IsBest H p B k L) {m : List Nat} (e : Ext m H H') (hp : p ∉ m) (hb : B ∈ m → H.next ≤ B) : IsBest H' p B k L := by
  obtain ⟨s, h1, h2⟩ := h.ex
  refine ⟨⟨s, e.get h.lt hp h1, ?_⟩, Nat.lt_of_lt_of_le h.lt e.next, h.ne, h.len⟩
  by_cases q : B ∈ m
  · obtain ⟨rfl, rfl⟩ | ⟨o, c, cs, rfl, h1, h2, h0, h3, h4, h5⟩ := h2.ex
    · exact ⟨.inl ⟨rfl, rfl⟩⟩
    · have := hb q; omega
  · exact h2.mono e q

theorem eqHit0 (a b c d : Int) : w_eq PP .neq 37 false false H (.agg [.int .i64 a, .int .i64 b]) (.agg [.int .i64 c, .int .i64 d]) = vO H (ob (br (eqZ a c) (br (eqZ b d) (some true) (some false)) (some false)) fun e => some (.bool (not e))) := by kernel_rfl
theorem eqHit (x y : Int × Int) : w_eq PP .neq 37 false false H (hitA x) (hitA y) = some (.val (.bool (!decide (x = y))) H) := by
  obtain ⟨a, b⟩ := x; obtain ⟨c, d⟩ := y
  show w_eq PP .neq 37 false false H (.agg [.int .i64 a, .int .i64 b]) (.agg [.int .i64 c, .int .i64 d]) = _
  rw [eqHit0]
  simp only [br_eq, eqZ_eq, vO]
  by_cases h1 : a = c <;> by_cases h2 : b = d <;> simp [h1, h2]

theorem hits_wp {b b' : Nat} {s s' : AV} {L L' : List (Int × Int)} (h : Hs H b s L) (h' : Hs H b' s' L') (hL : L.length ≤ 1000000) (K : AV → AH → Prop) (hK : K (.bool (decide (L = L'))) H) : CC.call 23 [s, s'] H K := by
  refine m_fieldfarelaw7_Hits_ok _ _ _ _ ?_
  unfold m_fieldfarelaw7_Hits m_fieldfarelaw7_Hitst m_fieldfarelaw7_Hitstth
  have l1 := h.len
  have l2 := h'.len
  simp (disch := first | omega | exact one_int _ _ | exact one_slice _ _ _ _ | exact one_ptr _ | assumption | ((repeat (first | rw [next_new] | rw [AH.next_put] | rw [next_more])) <;> omega) | fail) only [outP_val, 
      w_neq, 
      condP_not, 
      l1, l2]
  refine ⟨fun c => ?_, fun c => ?_⟩
  · have : ¬ L = L' := fun q => c (by rw [q])
    rw [decide_eq_false this] at hK; exact hK
  have hll : L.length = L'.length := by omega
  unfold m_fieldfarelaw7_Hitstthtb
  refine loopP_rule (I := fun t G => ∃ j : Nat, t = (s, s', .int .i64 L.length, .int .i64 j) ∧ G = H ∧ j ≤ L.length ∧ ∀ i (hi : i < L.length), i < j → L[i] = L'[i]'(by omega)) (μ := fun t _ => match t.2.2.2 with | .int _ z => L.length - z.toNat | _ => 0) ?_ ⟨0, rfl, rfl, Nat.zero_le _, fun i hi q => absurd q (by omega)⟩
  rintro t G ⟨j, rfl, rfl, hj, hsame⟩ rec hrec
  unfold m_fieldfarelaw7_Hitstthtbl
  simp (disch := first | omega | exact one_int _ _ | exact one_slice _ _ _ _ | exact one_ptr _ | assumption | ((repeat (first | rw [next_new] | rw [AH.next_put] | rw [next_more])) <;> omega) | fail) only [outP_val, 
      w_lss, w_add, wrap64_in, 
      condP_dec 
      ]
  refine ⟨fun c => ?_, fun c => ?_⟩
  · have cj : j < L.length := by omega
    obtain ⟨o1, a1, a2, a3⟩ := h.at cj
    obtain ⟨o2, b1, b2, b3⟩ := h'.at (j := j) (by omega)
    simp (disch := first | omega | exact one_int _ _ | exact one_slice _ _ _ _ | exact one_ptr _ | assumption | ((repeat (first | rw [next_new] | rw [AH.next_put] | rw [next_more])) <;> omega) | fail) only [outP_val, w_load_n, 
      vO_some, 
      condP_not, 
      a1, b1, a3, b3, eqHit]
    refine ⟨fun q => ?_, fun q => ?_⟩
    · have : ¬ L = L' := fun e => q (by subst e; rfl)
      rw [decide_eq_false this] at hK; exact hK
    · refine hrec _ _ ⟨j + 1, by rfl, rfl, by omega, fun i hi hij => ?_⟩ ?_
      · rcases Nat.lt_or_ge i j with r | r
        · exact hsame i hi r
        · have : i = j := by omega
          subst this; exact q
      · show L.length - ((j : Int) + 1).toNat < L.length - (j : Int).toNat
        omega
  · have : L = L' := List.ext_getElem hll fun i h1 h2 => hsame i h1 (by omega)
    rw [decide_eq_true this] at hK; exact hK
end
end Go.Ab
