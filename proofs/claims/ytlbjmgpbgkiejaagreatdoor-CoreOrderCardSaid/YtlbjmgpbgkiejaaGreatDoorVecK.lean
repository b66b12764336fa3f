/- Vectors: what the layers above need. -/
import Derived.Test.YtlbjmgpbgkiejaaGreatDoorNums
import Derived.Test.YtlbjmgpbgkiejaaGreatDoorMB
namespace Go.Ab
noncomputable section
open Go.Proofs
set_option maxRecDepth 10000
variable {H H' : AH}

theorem i32_sl : PP.underlying 26 = some (.slice 21) := by kernel_rfl
theorem vec_sl : PP.underlying 27 = some (.slice 21) := by kernel_rfl
theorem u8_sl : PP.underlying 62 = some (.slice 5) := by kernel_rfl
theorem i32_el : elT PP 21 = some (1, [.int .i32 0]) := by kernel_rfl
theorem u8_el : elT PP 5 = some (1, [.int .u8 0]) := by kernel_rfl
theorem i32_by : byOf PP 21 = some 4 := by kernel_rfl
theorem u8_by : byOf PP 5 = some 1 := by kernel_rfl
/-- They fit. -/
abbrev In32 (L : List Int) : Prop := ∀ x ∈ L, -2147483648 ≤ x ∧ x ≤ 2147483647

theorem wrap64_32 {x : Int} (h : -2147483648 ≤ x ∧ x ≤ 2147483647) : IntKind.i64.wrap x = x := wrap64_in (by omega) (by omega)
theorem vecEq_wp {b b' : Nat} {s s' : AV} {L M : List Int} (h : Is .i32 H b s L) (h' : Is .i32 H b' s' M) (hL : L.length ≤ 9223372036854775807) (K : AV → AH → Prop) (hK : K (.bool (decide (L = M))) H) : CC.call 207 [s, s'] H K := by
  refine m_vect_Eq_ok _ _ _ _ ?_
  unfold m_vect_Eq
  rw [outP_enter]
  refine m_slices_Equal_api_Vec_int32_ok _ _ _ _ ?_
  unfold m_slices_Equal_api_Vec_int32 m_slices_Equal_api_Vec_int32t
  have l1 := h.len vec_sl
  have l2 := h'.len vec_sl
  rw [l1, outP_val, l2, outP_val, w_neq, outP_val]
  by_cases c : L.length = M.length
  · rw [decide_eq_true (by omega), Bool.not_true, condP_false]
    unfold m_slices_Equal_api_Vec_int32tth m_slices_Equal_api_Vec_int32tthtb
    rw [l1, outP_val]
    refine loopP_rule (I := fun t G => ∃ j : Nat, t = (s, s', .int .i64 L.length, .int .i64 j) ∧ G = H ∧ j ≤ L.length ∧ ∀ i (hi : i < L.length), i < j → L[i] = M[i]'(by omega)) (μ := fun t _ => match t.2.2.2 with | .int _ z => L.length - z.toNat | _ => 0) ?_ ⟨0, rfl, rfl, Nat.zero_le _, fun i hi q => absurd q (by omega)⟩
    rintro t G ⟨j, rfl, rfl, hj, hsame⟩ rec hrec
    unfold m_slices_Equal_api_Vec_int32tthtbl
    rw [w_lss, outP_val]
    by_cases cj : j < L.length
    · obtain ⟨o1, a1, a2, a3⟩ := h.at cj
      obtain ⟨o2, b1, b2, b3⟩ := h'.at (j := j) (by omega)
      rw [decide_eq_true (by omega), condP_true, a1, outP_val, w_load_c, a3, vO_some, outP_val, b1, outP_val, w_load_c, b3, vO_some, outP_val, w_neq, outP_val]
      by_cases q : L[j] = M[j]'(by omega)
      · rw [decide_eq_true q, Bool.not_true, condP_false, w_add_in (by omega) (by omega), outP_val]
        refine hrec _ _ ⟨j + 1, by rfl, rfl, by omega, fun i hi hij => ?_⟩ ?_
        · rcases Nat.lt_or_ge i j with r | r
          · exact hsame i hi r
          · have : i = j := by omega
            subst this; exact q
        · show L.length - ((j : Int) + 1).toNat < L.length - (j : Int).toNat
          omega
      · rw [decide_eq_false q, Bool.not_false, condP_true]
        have : ¬ L = M := fun e => q (by subst e; rfl)
        rw [decide_eq_false this] at hK; exact hK
    · rw [decide_eq_false (by omega), condP_false]
      have : L = M := List.ext_getElem c fun i h1 h2 => hsame i h1 (by omega)
      rw [decide_eq_true this] at hK; exact hK
  · rw [decide_eq_false (by omega), Bool.not_false, condP_true]
    have : ¬ L = M := fun q => c (by rw [q])
    rw [decide_eq_false this] at hK; exact hK

def SlK (s : AV) : Prop := s = .slice none 0 0 true ∨ (∃ b o, s = .tail b o) ∨ ∃ b o n c ex, s = .slice (some (b, o)) n c ex
theorem Sl.slk {sz b : Nat} {s : AV} {X : List (List AV)} (h : Sl H sz b s X) : SlK s := by
  obtain ⟨rfl | ⟨_, _, rfl⟩, _⟩ | ⟨o, c, ex, rfl, _, _⟩ := h.ex
  · exact .inl rfl
  · exact .inr (.inl ⟨_, _, rfl⟩)
  · exact .inr (.inr ⟨_, _, _, _, _, rfl⟩)
theorem beq_slk {s : AV} (h : SlK s) : AV.beq s s = true := by
  rcases h with rfl | ⟨_, _, rfl⟩ | ⟨_, _, _, _, ex, rfl⟩
  · rfl
  · simp [AV.beq]
  · cases ex <;> simp [AV.beq]
theorem beq_str (a : List UInt8) : AV.beq (.str a) (.str a) = true := by simp [AV.beq, strEq_eq]
theorem push_num_at {e by_ : Nat} {k : IntKind} (he : elT PP e = some (1, [.int k 0])) (hby : by_ ≤ 8) {B : Nat} {s : AV} {L : List Int} (ho : Os e k H B s L) (hL : L.length ≤ 100000) (hBn : B < H.next ∨ L = []) (x : Int) (K : AV → AH → Prop)
    (hK : ∀ H' s' B', Ext [B] H H' → (B' = B ∨ H.next ≤ B') → Os e k H' B' s' (L ++ [x]) → K s' H') :
    outP CC (H.more 1) (w_buildSlice PP e 1 (H.more 1) [(0, .int k x)] (some H.next)) fun v G => outP CC G (w_append e 1 by_ G s v none) K := by
  refine st (bs_num_at he x _) ?_
  obtain ⟨B0, hB0, hne, ho⟩ : ∃ B0, (B0 = B ∨ H.next ≤ B0) ∧ B0 ≠ H.next ∧ Os e k H B0 s L := by
    rcases ho.ex with ⟨h1, h2⟩ | ⟨o, c, ex, cs, h1, h2, h3, h4, h5, h6, h7⟩
    · refine ⟨H.next + 1, .inr (by omega), by omega, ?_⟩
      have : L = [] := by simpa using h2
      subst this; subst h1
      exact os_nil _ _ _
    · exact ⟨B, .inl rfl, by omega, ho⟩
  have x1 : Ext [] H ((H.more 1).put H.next (some (.cells e [.int k x]))) := ((Ext.refl _ _).more 1).put (.inl (Nat.le_refl _)) _
  have o1 : Os e k ((H.more 1).put H.next (some (.cells e [.int k x]))) H.next (.slice (some (H.next, 0)) 1 1 true) [x] :=
    ⟨.inr ⟨0, 1, true, _, rfl, get_put_same _ _, Nat.le_refl _, Nat.le_refl _, fun q => (by cases q), rfl, by rw [AH.next_put, next_more]; omega⟩, by simp, by simp [AV.known], by simp [AV.one]⟩
  obtain ⟨s', H', B', e1, e2, e3, e4⟩ := (Own.mono ho x1 (by simp)).append (by_ := by_) (Own.sl o1) (by omega) (by
    simp only [List.length_map, List.length_singleton]
    have : (2 * (L.length + 1) + 1024) * by_ ≤ (2 * (L.length + 1) + 1024) * 8 := Nat.mul_le_mul_left _ hby
    omega)
  rw [AH.next_put, next_more] at e3
  refine st e1 ?_
  have hO : Os e k H' B' s' (L ++ [x]) := by
    show Own _ _ _ _ _ _
    rw [show nums k (L ++ [x]) = nums k L ++ nums k [x] from List.map_append]; exact e4
  refine hK _ _ B' ?_ ?_ hO
  · refine ((x1.mono (m' := [B0]) (by simp)).trans e2).mono fun b hb hlt => ?_
    simp at hb ⊢; omega
  · omega
end
end Go.Ab
/- Vectors that may be; a vector's copy. -/
namespace Go.Ab
noncomputable section
open Go.Proofs
set_option maxRecDepth 10000
variable {H H' : AH}

theorem vecs_sl : PP.underlying 22 = some (.slice 27) := by kernel_rfl
theorem vec_el : elT PP 27 = some (1, [.slice none 0 0 true]) := by kernel_rfl
/-! May. -/
def mayB (V : List Int) (dim : Int) : Bool := decide (1 ≤ dim) && decide (dim ≤ 8) && decide ((V.length : Int) = dim) && !V.any (fun x => decide (x < -1048576) || decide (1048576 < x))
theorem mayB_iff (V : List Int) (dim : Int) : mayB V dim = true ↔ 1 ≤ dim ∧ dim ≤ 8 ∧ (V.length : Int) = dim ∧ ∀ x ∈ V, -1048576 ≤ x ∧ x ≤ 1048576 := by
  unfold mayB
  simp only [Bool.and_eq_true, decide_eq_true_iff, Bool.not_eq_true', List.any_eq_false, Bool.or_eq_true, and_assoc]
  constructor
  · rintro ⟨h1, h2, h3, h4⟩
    exact ⟨h1, h2, h3, fun x hx => by have := h4 x hx; omega⟩
  · rintro ⟨h1, h2, h3, h4⟩
    exact ⟨h1, h2, h3, fun x hx => by have := h4 x hx; omega⟩
theorem may1_wp (x : Int) (K : AV → AH → Prop) (hK : K (.bool (decide (x < -1048576) || decide (1048576 < x))) H) : CC.call 172 [.int .i32 x] H K := by
  refine m_vect_May_1_ok _ _ _ ?_
  unfold m_vect_May_1
  rw [w_lss, outP_val, boolIs_bool, beq_ff]
  by_cases c : x < -1048576
  · rw [decide_eq_true c, Bool.not_true, guardP_false, guardP_false, w_pick_b, outP_val, if_pos rfl]
    rw [decide_eq_true c, Bool.true_or] at hK; exact hK
  · rw [decide_eq_false c, Bool.not_false, guardP_true, outP_val, guardP_true, w_gtr, outP_val, w_pick_b, outP_val, if_neg (by simp)]
    rw [decide_eq_false c, Bool.false_or] at hK; exact hK
theorem idx_may {b : Nat} {s : AV} {L : List Int} (hs : Is .i32 H b s L) (hL : L.length ≤ 1000000) (K : AV → AH → Prop)
    (hK : ∀ i, (0 ≤ i ↔ L.any (fun x => decide (x < -1048576) || decide (1048576 < x)) = true) → K (.int .i64 i) H) : CC.call 240 [s, .fn (.func 172) [] []] H K := by
  refine m_slices_IndexFunc_api_Vec_int32_ok _ _ _ _ ?_
  unfold m_slices_IndexFunc_api_Vec_int32 m_slices_IndexFunc_api_Vec_int32th
  rw [hs.len vec_sl, outP_val]
  unfold m_slices_IndexFunc_api_Vec_int32thtb
  refine loopP_rule (I := fun t G => ∃ j : Nat, t = (s, .fn (.func 172) [] [], .int .i64 L.length, .int .i64 j) ∧ j ≤ L.length ∧ G = H ∧ ∀ x ∈ L.take j, ¬ (decide (x < -1048576) || decide (1048576 < x)) = true) (μ := fun t _ => match t.2.2.2 with | .int _ z => L.length - z.toNat | _ => 0) ?_ ⟨0, rfl, Nat.zero_le _, rfl, fun x hx => by simp at hx⟩
  rintro t G ⟨j, rfl, hj, rfl, hno⟩ rec hrec
  unfold m_slices_IndexFunc_api_Vec_int32thtbl
  rw [w_lss, outP_val]
  by_cases cj : j < L.length
  · obtain ⟨o, a1, a2, a3⟩ := hs.at cj
    rw [decide_eq_true (by omega), condP_true, a1, outP_val, w_load_c, a3, vO_some, outP_val]
    show CC.call 172 [.int .i32 L[j]] G _
    refine may1_wp _ _ ?_
    cases c : (decide (L[j] < -1048576) || decide (1048576 < L[j])) with
    | true =>
      rw [condP_true]
      exact hK _ ⟨fun _ => List.any_eq_true.2 ⟨L[j], List.getElem_mem cj, c⟩, fun _ => by omega⟩
    | false =>
      rw [condP_false, w_add_in (by omega) (by omega), outP_val]
      refine hrec _ _ ⟨j + 1, by rfl, by omega, rfl, fun x hx => ?_⟩ ?_
      · rw [List.take_succ_eq_append_getElem cj, List.mem_append] at hx
        rcases hx with hx | hx
        · exact hno x hx
        · simp at hx; subst hx; rw [c]; simp
      · show L.length - ((j : Int) + 1).toNat < L.length - (j : Int).toNat
        omega
  · rw [decide_eq_false (by omega), condP_false]
    refine hK _ ⟨fun q => by omega, fun q => ?_⟩
    obtain ⟨x, hx, hx'⟩ := List.any_eq_true.1 q
    exact absurd hx' (hno x (by rw [List.take_of_length_le (by omega)]; exact hx))
theorem vmay_wp {b : Nat} {s : AV} {V : List Int} (h : Is .i32 H b s V) (dim : Int) (K : AV → AH → Prop) (hK : K (.bool (mayB V dim)) H) : CC.call 87 [s, .int .i64 dim] H K := by
  refine m_vect_May_ok _ _ _ _ ?_
  unfold m_vect_May
  have l1 := h.len vec_sl
  have key := mayB_iff V dim
  have no : ¬ mayB V dim = true → mayB V dim = false := fun q => by cases r : mayB V dim with | true => exact absurd r q | false => rfl
  rw [w_lss, outP_val, boolIs_bool, beq_ff]
  by_cases c1 : dim < 1
  · have e := no fun q => by have := key.1 q; omega
    rw [e] at hK
    rw [decide_eq_true c1, Bool.not_true, guardP_false, guardP_false, w_pick_b, outP_val, if_pos rfl, boolIs_bool, beq_ff, Bool.not_true, guardP_false, guardP_false, guardP_false, guardP_false, w_pick_b, outP_val, if_pos rfl, condP_true]
    exact hK
  · rw [decide_eq_false c1, Bool.not_false, guardP_true, outP_val, guardP_true, w_gtr, outP_val, w_pick_b, outP_val, if_neg (by simp), boolIs_bool, beq_ff]
    by_cases c2 : 8 < dim
    · have e := no fun q => by have := key.1 q; omega
      rw [e] at hK
      rw [decide_eq_true c2, Bool.not_true, guardP_false, guardP_false, guardP_false, guardP_false, w_pick_b, outP_val, if_pos rfl, condP_true]
      exact hK
    · rw [decide_eq_false c2, Bool.not_false, guardP_true, outP_val, guardP_true, l1, outP_val, guardP_true, outP_val, guardP_true, w_neq, outP_val, w_pick_b, outP_val, if_neg (by simp)]
      by_cases c3 : (V.length : Int) = dim
      · rw [decide_eq_true c3, Bool.not_true, condP_false, outP_enter]
        refine m_slices_ContainsFunc_api_Vec_int32_ok _ _ _ _ ?_
        unfold m_slices_ContainsFunc_api_Vec_int32
        rw [outP_enter]
        refine idx_may h (by omega) _ fun i hi => ?_
        rw [w_geq, outP_val]
        show outP CC H (w_un .not H (.bool (decide (0 ≤ i)))) _
        rw [w_not, outP_val]
        have e : mayB V dim = !decide (0 ≤ i) := by
          unfold mayB
          rw [decide_eq_true (by omega), decide_eq_true (by omega), decide_eq_true c3, Bool.true_and, Bool.true_and, Bool.true_and]
          congr 1
          rw [Bool.eq_iff_iff, decide_eq_true_iff]; exact hi.symm
        rw [e] at hK; exact hK
      · have e := no fun q => by have := key.1 q; omega
        rw [e] at hK
        rw [decide_eq_false c3, Bool.not_false, condP_true]
        exact hK

/-! A copy. -/
theorem eq_nn : w_eq PP .eql 27 false true H (.slice none 0 0 true) (.slice none 0 0 true) = some (.val (.bool true) H) := by kernel_rfl
theorem eq_nt (b o : Nat) : w_eq PP .eql 27 false true H (.tail b o) (.slice none 0 0 true) = some (.val (.bool false) H) := by kernel_rfl
theorem eq_ns (b o n c : Nat) (ex : Bool) : w_eq PP .eql 27 false true H (.slice (some (b, o)) n c ex) (.slice none 0 0 true) = some (.val (.bool false) H) := by kernel_rfl
theorem bs_nnone : w_buildSlice PP 21 0 H [] none = some (.val (.slice (some (H.next, 0)) 0 0 true) (H.new (.cells 21 []))) := by
  have h1 : Nat.ble (0 * 1) 16777216 = true := rfl
  have h2 : fillA (fun i => some (i * 1, 1)) [] (reps 0 [AV.int .i32 0]) = some [] := rfl
  have h3 : allB (fun x : Nat × AV => allB AV.one x.2.parts) [] = true := rfl
  simp only [w_buildSlice, oBuildSlice, i32_el, h1, h2, h3, br_true, val_mk, ob_some, newSlice, newTo_none_eq]
theorem app_none {b : Nat} {s : AV} {L : List Int} (h : Is .i32 H b s L) (hL : L.length ≤ 100000) : ∃ s' H' B', w_append 21 1 4 (H.new (.cells 21 [])) (.slice (some (H.next, 0)) 0 0 true) s none = some (.val s' H') ∧ Ext [] H H' ∧ H.next ≤ B' ∧ Os 21 .i32 H' B' s' L := by
  have x1 : Ext [] H (H.new (.cells 21 [])) := (Ext.refl _ _).new _
  have o1 : Own (H.new (.cells 21 [])) 21 1 H.next (.slice (some (H.next, 0)) 0 0 true) [] :=
    ⟨.inr ⟨0, 0, true, [], rfl, get_new_same _ _, Nat.le_refl _, by simp, fun q => (by cases q), rfl, by rw [next_new]; omega⟩, by simp, by simp, by simp⟩
  obtain ⟨s', H', B', e1, e2, e3, e4⟩ := o1.append (by_ := 4) (Sl.mono h x1 (by simp)) (by omega) (by simp only [List.length_nil, List.length_map]; omega)
  refine ⟨s', H', B', e1, ((x1.mono (m' := [H.next]) (by simp)).trans e2).mono fun b hb hlt => ?_, ?_, by simpa using e4⟩
  · simp at hb; omega
  · rw [next_new] at e3; omega
theorem vcopy_wp {b : Nat} {s : AV} {L : List Int} (h : Is .i32 H b s L) (hL : L.length ≤ 100000) (K : AV → AH → Prop)
    (hK : ∀ H' s' B', Ext [] H H' → H.next ≤ B' → Os 21 .i32 H' B' s' L → K s' H') : CC.call 149 [s] H K := by
  refine m_vect_Copy_ok _ _ _ ?_
  unfold m_vect_Copy
  rw [outP_enter]
  refine m_slices_Clone_api_Vec_int32_ok _ _ _ ?_
  unfold m_slices_Clone_api_Vec_int32
  have go : outP CC H (w_buildSlice PP 21 0 H [] none) (fun v2 H2 => outP CC H2 (w_append 21 1 4 H2 v2 s none) fun v3 H3 => K v3 H3) := by
    rw [bs_nnone, outP_val]
    obtain ⟨s', H', B', e1, e2, e3, e4⟩ := app_none h hL
    exact st e1 (hK _ _ B' e2 e3 e4)
  obtain ⟨rfl | ⟨_, _, rfl⟩, hn⟩ | ⟨o, c, ex, rfl, h2, h3⟩ := h.ex
  · rw [eq_nn, outP_val, condP_true]
    refine hK _ _ H.next (Ext.refl _ _) (Nat.le_refl _) ?_
    show Own _ _ _ _ _ _
    rw [hn]; exact Own.nil _ _ _ _
  · rw [eq_nt, outP_val, condP_false]; exact go
  · rw [eq_ns, outP_val, condP_false]; exact go

/-! Slices of vectors. -/
abbrev Vq := AV × Nat × List Int
abbrev vrow (Y : List Vq) : List (List AV) := Y.map fun y => [y.1]
structure VEl (H : AH) (y : Vq) : Prop where
  is : Is .i32 H y.2.1 y.1 y.2.2
  in32 : In32 y.2.2
theorem VEl.mono {y : Vq} (h : VEl H y) {m : List Nat} (e : Ext m H H') (hm : y.2.1 ∈ m → y.2.2 = []) : VEl H' y := ⟨Sl.mono' h.is e (fun q => by rw [hm q]; rfl), h.in32⟩
theorem VEl.mono0 {y : Vq} (h : VEl H y) (e : Ext [] H H') : VEl H' y := h.mono e (by simp)
theorem VEl.low {y : Vq} (h : VEl H y) : y.2.1 < H.next ∨ y.2.2 = [] := (Sl.low h.is).imp id fun q => by simpa using q
theorem vrow_at {b : Nat} {s : AV} {Y : List Vq} (h : Sl H 1 b s (vrow Y)) {j : Nat} (hj : j < Y.length) : ∃ o, (∀ G : AH, w_indexAddr (.sl 1) G s (.int .i64 j) = some (.val (.ptr (some (b, o))) G)) ∧ b < H.next ∧ ldV (H.get b) o = some Y[j].1 := by
  obtain ⟨o, h1, h2, h3⟩ := Sl.at h (j := j) (by simpa using hj) .i64
  have e : (vrow Y)[j]'(by simpa using hj) = [Y[j].1] := by simp
  obtain ⟨k1, k2, k3⟩ := Sl.elt h (j := j) (by simpa using hj)
  rw [e] at h3 k2 k3
  exact ⟨o, h1, h2, ldV_of (h3 0 _ rfl) (by simpa using k2) (by simpa using k3)⟩
theorem vrow_len {b : Nat} {s : AV} {Y : List Vq} (h : Sl H 1 b s (vrow Y)) (G : AH) : w_len PP 22 G s = some (.val (.int .i64 Y.length) G) := by
  have := Sl.len (P := PP) h vecs_sl G
  rwa [List.length_map] at this
end
end Go.Ab
