/- quant: codes, what they tell back, by how much they are off. -/
import Derived.Test.YtbahknfffhijlaaGreatDoorQuant
namespace Go.Ab
noncomputable section
open Go.Proofs
set_option maxRecDepth 10000
variable {H H' : AH}

def codeF (Lo St V : List Int) (i : Nat) : Int := if i < V.length then codeZ (Lo.getD i 0) (St.getD i 0) (V.getD i 0) else 0
def codeL (Lo St V : List Int) : List Int := if rightB Lo St = true then (List.range Lo.length).map (codeF Lo St V) else []
def backF (Lo St C : List Int) (i : Nat) : Int := backZ (Lo.getD i 0) (St.getD i 0) (if i < C.length then C.getD i 0 else 0)
def backL (Lo St C : List Int) : List Int := if rightB Lo St = true then (List.range Lo.length).map (backF Lo St C) else []
theorem getD_at {L : List Int} {i : Nat} (h : i < L.length) : L.getD i 0 = L[i] := by rw [List.getD_eq_getElem?_getD, List.getElem?_eq_getElem h]; rfl
theorem wrap64_32 {x : Int} (h : -2147483648 ≤ x ∧ x ≤ 2147483647) : IntKind.i64.wrap x = x := wrap64_in (by omega) (by omega)
theorem tdiv2 {x : Int} (h : 0 ≤ x) : x.tdiv 2 = x / 2 := Int.tdiv_eq_ediv_of_nonneg h
abbrev In8 (L : List Int) : Prop := ∀ x ∈ L, 0 ≤ x ∧ x ≤ 255

theorem qCode_wp {lo st v : AV} {bl bs bv : Nat} {Lo St V : List Int} (h : Bk H lo st bl bs Lo St) (hv : Is .i32 H bv v V) (hV : In32 V) (hVl : V.length ≤ 1000) (K : AV → AH → Prop)
    (hK : ∀ H' s' B, Ext [] H H' → H.next ≤ B → Os 5 .u8 H' B s' (codeL Lo St V) → K s' H') : CC.call 18 [.agg [lo, st], v] H K := by
  refine m_quant_Code_ok _ _ _ _ ?_
  unfold m_quant_Code
  obtain ⟨f1, f2, _, f3⟩ := h.lo.facts
  obtain ⟨g1, g2, _, g3⟩ := h.st.facts
  have l1 := h.lo.len i32_sl
  have lv := hv.len vec_sl
  have b1 := h.lenL
  have x1 : Ext [] H (H.new (.cells 55 [lo, st])) := (Ext.refl _ _).new _
  have hg := get_new_same H (.cells 55 [lo, st])
  have hn : H.next < (H.new (.cells 55 [lo, st])).next := by rw [next_new]; omega
  simp (disch := first | omega | exact one_int _ _ | exact one_slice _ _ _ _ | exact one_ptr _ | assumption | ((repeat (first | rw [next_new] | rw [AH.next_put] | rw [next_more])) <;> omega) | fail) only [outP_val, 
      w_box_c, parts_agg, 
      List.all_cons, List.all_nil, Bool.and_self, br_true, 
      
      f1, g1]
  generalize hG : H.new (.cells 55 [lo, st]) = G at *
  unfold m_quant_Codet
  simp (disch := first | omega | exact one_int _ _ | exact one_slice _ _ _ _ | exact one_ptr _ | assumption | ((repeat (first | rw [next_new] | rw [AH.next_put] | rw [next_more])) <;> omega) | fail) only [outP_val, outP_enter, w_load_n, 
      vO_some, 
      hg, ldN_two _ f3 g3]
  refine right_wp (h.mono0 x1) _ fun G1 x2 => ?_
  have hg1 := x2.get hn (by simp) hg
  have n2 := x2.next
  cases hr : rightB Lo St with
  | false =>
    simp (disch := first | omega | exact one_int _ _ | exact one_slice _ _ _ _ | exact one_ptr _ | assumption | ((repeat (first | rw [next_new] | rw [AH.next_put] | rw [next_more])) <;> omega) | fail) only [outP_val, 
      w_not, 
      condP_true, 
      Bool.not_false ]
    refine hK _ _ G1.next (x1.trans x2) (by omega) ?_
    unfold codeL; rw [if_neg (by rw [hr]; simp)]
    exact os_nil _ _ _
  | true =>
    obtain ⟨hle, hpos⟩ := (rightB_iff _ _).1 hr
    have hcl : codeL Lo St V = (List.range Lo.length).map (codeF Lo St V) := by unfold codeL; rw [if_pos hr]
    unfold m_quant_Codett
    obtain ⟨G2, q1, x3, n3, o2⟩ := make_nums (H := G1) u8_el u8_by (by omega) (n := Lo.length) (by omega)
    simp (disch := first | omega | exact one_int _ _ | exact one_slice _ _ _ _ | exact one_ptr _ | assumption | ((repeat (first | rw [next_new] | rw [AH.next_put] | rw [next_more])) <;> omega) | fail) only [outP_val, w_fieldAddr_ptr, w_load_c, ldV_cells, 
      vO_some, Nat.add_zero, List.getElem?_cons_zero, ob_some, 
      w_not, 
      condP_false, Bool.not_true, 
      hg1, f2, l1, q1]
    have n1 := x1.next
    have hB : G1.next ≠ H.next := by omega
    generalize (AV.slice (some (G1.next, 0)) Lo.length Lo.length true) = c at *
    unfold m_quant_Codettth
    have lc := (Os.is o2).len u8_sl
    rw [List.length_replicate] at lc
    rw [lc, outP_val]
    unfold m_quant_Codettthtb
    have x13 := (x1.trans x2).trans x3
    refine loopP_rule (I := fun t G3 => ∃ j : Nat, t = (v, .ptr (some (H.next, 0)), c, .int .i64 Lo.length, .int .i64 j) ∧ j ≤ Lo.length ∧ Ext [G1.next] G2 G3 ∧ Os 5 .u8 G3 G1.next c (fillTo (codeF Lo St V) Lo.length j)) (μ := fun t _ => match t.2.2.2.2 with | .int _ z => Lo.length - z.toNat | _ => 0) ?_ ⟨0, rfl, Nat.zero_le _, Ext.refl _ _, by rw [fillTo_zero]; exact o2⟩
    rintro t G3 ⟨j, rfl, hj, x4, o3⟩ rec hrec
    unfold m_quant_Codettthtbl
    have hg3 : G3.get H.next = _ := x4.get (by omega) (by simp; omega) (x3.get (by omega) (by simp) hg1)
    by_cases cj : j < Lo.length
    · have d1 : decide ((j : Int) < (Lo.length : Int)) = true := decide_eq_true (by omega)
      by_cases cv : j < V.length
      · have d2 : decide ((j : Int) < (V.length : Int)) = true := decide_eq_true (by omega)
        have hb3 : Bk G3 lo st bl bs Lo St := (h.mono0 x13).mono x4 (fun q => by
          rcases Sl.low h.lo with r | r
          · simp at q; omega
          · simpa using r) (fun q => by
          rcases Sl.low h.st with r | r
          · simp at q; omega
          · simpa using r)
        have hv3 : Is .i32 G3 bv v V := Sl.mono' (Sl.mono hv x13 (by simp)) x4 (fun q => by
          rcases Sl.low hv with r | r
          · simp at q; omega
          · exact r)
        obtain ⟨o1, a1, a2, a3⟩ := hb3.lo.at cj
        obtain ⟨o2', c1, c2, c3⟩ := hb3.st.at (j := j) (by omega)
        obtain ⟨o3', e1, e2, e3⟩ := hv3.at cv
        have iL := h.inL Lo[j] (List.getElem_mem cj)
        have iS := h.inS (St[j]'(by omega)) (List.getElem_mem _)
        have iV := hV V[j] (List.getElem_mem cv)
        have pS := hpos (St[j]'(by omega)) (List.getElem_mem _)
        simp (disch := first | omega | exact one_int _ _ | exact one_slice _ _ _ _ | exact one_ptr _ | assumption | ((repeat (first | rw [next_new] | rw [AH.next_put] | rw [next_more])) <;> omega) | fail) only [outP_val, outP_enter, w_fieldAddr_ptr, w_load_c, ldV_cells, 
      vO_some, Nat.zero_add, Nat.add_zero, List.getElem?_cons_zero, List.getElem?_cons_succ, ob_some, 
      w_lss, w_add, w_sub, w_cint, wrap64_in, 
      condP_true, 
      d1, d2, lv, hg3, f2, g2, a1, a3, c1, c3, e1, e3, wrap64_32 iL, wrap64_32 iS, wrap64_32 iV, 
      w_quo _ _ _ (show (2 : Int) ≠ 0 by decide), tdiv2]
        refine floor_wp (by omega) ⟨by omega, by omega⟩ _ ?_
        have hz := codeZ_ge Lo[j] (St[j]'(by omega)) V[j]
        have hc : codeF Lo St V j = codeZ Lo[j] (St[j]'(by omega)) V[j] := by unfold codeF; rw [if_pos cv, getD_at cj, getD_at (by omega), getD_at cv]
        obtain ⟨p, y1, y2, y3, y4⟩ := o3.at (j := j) (by rw [fillTo_len]; exact cj)
        obtain ⟨G4, z1, z2, z3, o4⟩ := y4 (codeF Lo St V j)
        rw [fillTo_set] at o4
        rw [hc] at z1
        unfold codeZ at z1 hz
        simp (disch := first | omega | exact one_int _ _ | exact one_slice _ _ _ _ | exact one_ptr _ | assumption | ((repeat (first | rw [next_new] | rw [AH.next_put] | rw [next_more])) <;> omega) | fail) only [outP_val, outP_skip, 
      w_cint, 
      w_min2_int, w_max2_int, w_store_c, 
      wrap8_in hz.1 hz.2, y1, z1]
        refine hrec _ _ ⟨j + 1, by rfl, by omega, x4.trans z2, o4⟩ ?_
        show Lo.length - ((j : Int) + 1).toNat < Lo.length - (j : Int).toNat
        omega
      · have d2 : decide ((j : Int) < (V.length : Int)) = false := decide_eq_false (by omega)
        simp (disch := first | omega | exact one_int _ _ | exact one_slice _ _ _ _ | exact one_ptr _ | assumption | ((repeat (first | rw [next_new] | rw [AH.next_put] | rw [next_more])) <;> omega) | fail) only [outP_val, outP_enter, w_fieldAddr_ptr, w_load_c, 
      Nat.zero_add, Nat.add_zero, 
      w_lss, w_add, wrap64_in, 
      condP_true, condP_false, 
      d1, d2, lv]
        refine hrec _ _ ⟨j + 1, by rfl, by omega, x4, ?_⟩ ?_
        · rw [← fillTo_skip _ _ _ (by unfold codeF; rw [if_neg cv])]; exact o3
        · show Lo.length - ((j : Int) + 1).toNat < Lo.length - (j : Int).toNat
          omega
    · have d1 : decide ((j : Int) < (Lo.length : Int)) = false := decide_eq_false (by omega)
      simp (disch := first | omega | exact one_int _ _ | exact one_slice _ _ _ _ | exact one_ptr _ | assumption | ((repeat (first | rw [next_new] | rw [AH.next_put] | rw [next_more])) <;> omega) | fail) only [outP_val, outP_enter, w_fieldAddr_ptr, w_load_c, 
      Nat.zero_add, Nat.add_zero, 
      w_lss, w_add, wrap64_in, 
      condP_false, 
      d1]
      have : j = Lo.length := by omega
      subst this
      rw [fillTo_all, ← hcl] at o3
      refine hK _ _ G1.next ((x13.mono (by simp)).trans x4 |>.mono fun b hb hlt => ?_) (by omega) o3
      simp at hb; omega

theorem backF_32 (Lo St C : List Int) (i : Nat) : -1048576 ≤ backF Lo St C i ∧ backF Lo St C i ≤ 1048576 := by unfold backF backZ; omega
theorem wrap32_20 {x : Int} (h : -1048576 ≤ x ∧ x ≤ 1048576) : IntKind.i32.wrap x = x := wrap32_in (by omega) (by omega)
theorem mul_bnd {a b : Int} (ha : 0 ≤ a ∧ a ≤ 2147483647) (hb : 0 ≤ b ∧ b ≤ 255) : 0 ≤ a * b ∧ a * b ≤ 547608330240 := by
  have h1 := Int.mul_nonneg ha.1 hb.1
  have h2 : a * b ≤ 2147483647 * 255 := Int.mul_le_mul ha.2 hb.2 hb.1 (by decide)
  omega
theorem push_num_at {e by_ : Nat} {k : IntKind} (he : elT PP e = some (1, [.int k 0])) (hby : by_ ≤ 8) {B : Nat} {s : AV} {L : List Int} (ho : Os e k H B s L) (hL : L.length ≤ 100000) (hBn : B < H.next ∨ L = []) (x : Int) (K : AV → AH → Prop)
    (hK : ∀ H' s' B', Ext [B] H H' → (B' = B ∨ H.next ≤ B') → Os e k H' B' s' (L ++ [x]) → K s' H') :
    outP CC (H.more 1) (w_buildSlice PP e 1 (H.more 1) [(0, .int k x)] (some H.next)) fun v G => outP CC G (w_append e 1 by_ G s v none) K := by
  refine st (bs_num_at he x _) ?_
  obtain ⟨B0, hB0, hne, ho⟩ : ∃ B0, (B0 = B ∨ H.next ≤ B0) ∧ B0 ≠ H.next ∧ Os e k H B0 s L := by
    rcases ho.ex with ⟨h1, h2⟩ | ⟨o, c, ex, cs, h1, h2, h3, h4, h5, h6, h7⟩
    · refine ⟨H.next + 1, .inr (by omega), by omega, ?_⟩
      have : L = [] := by simpa using h2
      subst this; subst h1
      exact os_nil _ _ _
    · exact ⟨B, .inl rfl, by omega, ho⟩
  have x1 : Ext [] H ((H.more 1).put H.next (some (.cells e [.int k x]))) := ((Ext.refl _ _).more 1).put (.inl (Nat.le_refl _)) _
  have o1 : Os e k ((H.more 1).put H.next (some (.cells e [.int k x]))) H.next (.slice (some (H.next, 0)) 1 1 true) [x] :=
    ⟨.inr ⟨0, 1, true, _, rfl, get_put_same _ _, Nat.le_refl _, Nat.le_refl _, fun q => (by cases q), rfl, by rw [AH.next_put, next_more]; omega⟩, by simp, by simp [AV.known], by simp [AV.one]⟩
  obtain ⟨s', H', B', e1, e2, e3, e4⟩ := (Own.mono ho x1 (by simp)).append (by_ := by_) (Own.sl o1) (by omega) (by
    simp only [List.length_map, List.length_singleton]
    have : (2 * (L.length + 1) + 1024) * by_ ≤ (2 * (L.length + 1) + 1024) * 8 := Nat.mul_le_mul_left _ hby
    omega)
  rw [AH.next_put, next_more] at e3
  refine st e1 ?_
  have hO : Os e k H' B' s' (L ++ [x]) := by
    show Own _ _ _ _ _ _
    rw [show nums k (L ++ [x]) = nums k L ++ nums k [x] from List.map_append]; exact e4
  refine hK _ _ B' ?_ ?_ hO
  · refine ((x1.mono (m' := [B0]) (by simp)).trans e2).mono fun b hb hlt => ?_
    simp at hb ⊢; omega
  · omega
end
end Go.Ab
