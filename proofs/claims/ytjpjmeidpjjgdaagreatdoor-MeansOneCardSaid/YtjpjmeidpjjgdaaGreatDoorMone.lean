/- fieldfarelaw7.MeansOne: what it does, at any input. -/
import Derived.Test.YtjpjmeidpjjgdaaGreatDoorMids
import Derived.Test.YtjpjmeidpjjgdaaGreatDoorP9
namespace Go.Ab
noncomputable section
open Go.Proofs
set_option maxRecDepth 10000
variable {H H' : AH}

/-! Plain. -/
theorem near_one (M V : List Int) : nearM [M] V = 0 := by
  rcases near_cases [M] V with ⟨c, _⟩ | ⟨k, hk, e⟩
  · cases c
  · rw [List.length_singleton] at hk
    rw [e]; omega
theorem ofM_one (M : List Int) (L : List (List Int)) : ofM [M] L 0 = L := List.filter_eq_self.2 fun V _ => by rw [near_one]; rfl
theorem turn_one (M : List Int) (L : List (List Int)) : turnM [M] L = [midV M L] := by
  show [midV M (ofM [M] L 0)] = _
  rw [ofM_one]
def meanV (d : Nat) (L : List (List Int)) : List Int := (List.range d).map fun i => sumM L i / (L.length : Int)
theorem iter_one {L : List (List Int)} (hL : L ≠ []) (M : List Int) : ∀ k, iterM L (k + 1) [M] = [meanV M.length L]
  | 0 => by
    show turnM [M] L = _
    rw [turn_one, midV, if_neg hL]; rfl
  | k + 1 => by
    show turnM (iterM L (k + 1) [M]) L = _
    rw [iter_one hL M k, turn_one, midV, if_neg hL]
    show [meanV (meanV M.length L).length L] = _
    rw [show (meanV M.length L).length = M.length by simp [meanV]]
theorem fold_one : ∀ (L : List (List Int)) (M : List Int), L.foldl (addM 1) [M] = [M]
  | [], _ => rfl
  | V :: L, M => by
    show L.foldl (addM 1) (addM 1 [M] V) = _
    rw [addM, if_neg (by simp), fold_one L M]
theorem beg_one (V : List Int) (L : List (List Int)) : begM 1 (V :: L) = [V] := by
  show L.foldl (addM 1) (addM 1 [] V) = _
  rw [addM, if_pos ⟨by simp, by simp⟩]
  exact fold_one L V
theorem iter_nil (L : List (List Int)) : ∀ k, iterM L k [] = []
  | 0 => rfl
  | k + 1 => by show turnM (iterM L k []) L = _; rw [iter_nil L k]; rfl
theorem mids_one {r : Int} (hr : 1 ≤ r) {L : List (List Int)} {d : Nat} (hd : ∀ V ∈ L, V.length = d) : midsM 1 r L = if L = [] then [] else [meanV d L] := by
  unfold midsM
  rw [show (min (max (1 : Int) 1) 16).toNat = 1 from by decide]
  cases L with
  | nil => rw [if_pos rfl]; exact iter_nil [] _
  | cons V L =>
    rw [if_neg (by simp), beg_one]
    obtain ⟨k, hk⟩ : ∃ k, (min (max r 0) 10).toNat = k + 1 := ⟨(min (max r 0) 10).toNat - 1, by omega⟩
    rw [hk, iter_one (by simp), hd V (by simp)]
theorem mean_of {s n : Int} (hn : 0 < n) : s / n * n ≤ s ∧ s < s / n * n + n := by
  have h1 := Int.ediv_mul_le s (b := n) (by omega)
  have h2 := Int.lt_ediv_add_one_mul_self s hn
  rw [Int.add_mul, Int.one_mul] at h2
  exact ⟨h1, h2⟩

theorem meansOne_wp {b : Nat} {s : AV} {Y0 : List Vq} (r : Int) (h : Sl H 1 b s (vrow Y0)) (hy : ∀ y ∈ Y0, VEl H y) (hl : Laid H) (K : AV → AH → Prop) (hK : ∀ H', Ext [] H H' → K (.bool true) H') :
    CC.call 9 [s, .int .i64 r] H K := by
  refine m_fieldfarelaw7_MeansOne_ok _ _ _ _ ?_
  unfold m_fieldfarelaw7_MeansOne m_fieldfarelaw7_MeansOnet
  rw [outP_enter]
  refine begun_wp hl _ ?_
  unfold m_fieldfarelaw7_MeansOnett
  rw [w_not, outP_val, Bool.not_true, condP_false]
  unfold m_fieldfarelaw7_MeansOnettt
  rw [outP_enter]
  refine vecs_wp h hy 2 20 (by omega) (by omega) _ fun G1 s1 B1 Y x1 hB1 z1 vz => ?_
  have hYl : Y.length ≤ 20 := by have := congrArg List.length vz; simp at this; omega
  have hYd : ∀ y ∈ Y, y.2.2.length = 2 ∧ ∀ x ∈ y.2.2, -1048576 ≤ x ∧ x ≤ 1048576 := fun z q => by
    have : z.2.2 ∈ (Y0.take 20).map fun y => vecL y.2.2 2 := by rw [← vz]; exact List.mem_map.2 ⟨z, q, rfl⟩
    obtain ⟨y, hy, e⟩ := List.mem_map.1 this
    rw [← e]; exact ⟨vecL_len _ _, vecL_in _ _⟩
  have vs1 : Vs G1 B1 s1 Y := z1.vsM (by omega) fun z q => by have := (hYd z q).1; omega
  obtain ⟨m1, m2, m3, m4⟩ := modn r (m := 9) (by decide)
  have q9 : (9 : Int) ≠ 0 := by decide
  unfold m_fieldfarelaw7_MeansOnetttt
  rw [w_rem _ _ _ q9, outP_val, w_add_in (by omega) (by omega), outP_val, w_rem _ _ _ q9, outP_val, w_add_in (by omega) (by omega), outP_val]
  obtain ⟨r', hr'⟩ : ∃ r', r' = 1 + (r.tmod 9 + 9).tmod 9 := ⟨_, rfl⟩
  rw [← hr']
  unfold m_fieldfarelaw7_MeansOnettttt
  rw [outP_enter]
  refine midsN_wp vs1 (fun y q => by have := (hYd y q).1; omega) 1 r' _ fun G2 s2 B2 Z x2 hB2 z2 vZ => ?_
  rw [mids_one (by omega) (d := 2) (fun V hV => by obtain ⟨y, q, rfl⟩ := List.mem_map.1 hV; exact (hYd y q).1)] at vZ
  have vs2 := vs1.mono0 x2
  have x12 := x1.trans x2
  have lz : (vals Z).length = Z.length := by simp
  have ly : (vals Y).length = Y.length := by simp
  unfold m_fieldfarelaw7_MeansOnetttttt
  rw [vrow_len vs2.sl, outP_val, w_eql, outP_val]
  by_cases c : Y = []
  · subst c
    rw [if_pos (show vals [] = [] from rfl)] at vZ
    have : Z.length = 0 := by rw [← lz, vZ]; rfl
    rw [show decide ((([] : List Vq).length : Int) = 0) = true from rfl, condP_true, vrow_len z2.own.sl, outP_val, w_eql, outP_val, decide_eq_true (by omega)]
    exact hK _ x12
  · have yp := List.length_pos_iff.2 c
    rw [if_neg (fun q => c (List.map_eq_nil_iff.1 q))] at vZ
    have lZ : Z.length = 1 := by rw [← lz, vZ]; rfl
    obtain ⟨p, a1, _, a3⟩ := vrow_at z2.own.sl (j := 0) (by omega)
    have hz := z2.vos _ (List.getElem_mem (show 0 < Z.length by omega))
    have eZ : (Z[0]'(by omega)).2.2 = meanV 2 (vals Y) := by
      have := vals_at (Z := Z) (j := 0) (by omega)
      rw [vZ] at this; exact this.symm
    generalize Z[0]'(by omega) = z at *
    have a1' : ∀ G : AH, w_indexAddr (.sl 1) G s2 (.int .i64 0) = some (.val (.ptr (some (B2, p))) G) := a1
    have lm : (meanV 2 (vals Y)).length = 2 := rfl
    have lz2 := hz.1.os.is.len vec_sl
    rw [eZ, lm] at lz2
    rw [decide_eq_false (by omega), condP_false]
    unfold m_fieldfarelaw7_MeansOnettttttt
    rw [vrow_len z2.own.sl, outP_val, lZ, w_neq, show decide (((1 : Nat) : Int) = 1) = true from rfl]
    repeat (first | rw [outP_val] | rw [guardP_true] | rw [guardP_false] | rw [condP_true] | rw [a1'] | rw [a3] | rw [lz2] | rw [condP_false] | rw [boolIs_bool] | rw [boolIs_undef] | rw [beq_tt] | rw [beq_ff] | rw [Bool.not_true] | rw [Bool.not_false] | rw [outP_skip] | rw [w_pick_b] | rw [if_pos rfl] | rw [if_neg Bool.false_ne_true] | rw [w_fieldAddr_ptr] | rw [w_nil_ptr] | rw [Nat.zero_add] | rw [w_load_c] | rw [w_load_n] | rw [vO_some] | rw [w_store_c] | rw [w_not] | rw [w_lss] | rw [w_leq] | rw [w_gtr] | rw [w_geq] | rw [w_eql] | rw [w_cint] | rw [w_min2_int] | rw [w_max2_int] | rw [w_add_in (by omega) (by omega)] | rw [w_sub_in (by omega) (by omega)] | rw [w_mul_in (by omega) (by omega)] | rw [outP_enter])
    rw [w_neq, show decide (((2 : Nat) : Int) = 2) = true from rfl]
    repeat (first | rw [outP_val] | rw [guardP_true] | rw [guardP_false] | rw [condP_true] | rw [condP_false] | rw [boolIs_bool] | rw [boolIs_undef] | rw [beq_tt] | rw [beq_ff] | rw [Bool.not_true] | rw [Bool.not_false] | rw [outP_skip] | rw [w_pick_b] | rw [if_pos rfl] | rw [if_neg Bool.false_ne_true] | rw [w_fieldAddr_ptr] | rw [w_nil_ptr] | rw [Nat.zero_add] | rw [w_load_c] | rw [w_load_n] | rw [vO_some] | rw [w_store_c] | rw [w_not] | rw [w_lss] | rw [w_leq] | rw [w_gtr] | rw [w_geq] | rw [w_eql] | rw [w_neq] | rw [w_cint] | rw [w_min2_int] | rw [w_max2_int] | rw [w_add_in (by omega) (by omega)] | rw [w_sub_in (by omega) (by omega)] | rw [w_mul_in (by omega) (by omega)] | rw [outP_enter])
    unfold m_fieldfarelaw7_MeansOnetttttttth m_fieldfarelaw7_MeansOnetttttttthtb
    refine loopP_rule (I := fun t G => ∃ j : Nat, t = (s1, s2, .int .i64 j) ∧ j ≤ 2 ∧ G = G2) (μ := fun t _ => match t.2.2 with | .int _ z => 2 - z.toNat | _ => 0) ?_ ⟨0, rfl, by omega, rfl⟩
    rintro t G ⟨j, rfl, hj, rfl⟩ rec hrec
    unfold m_fieldfarelaw7_MeansOnetttttttthtbl
    rw [w_lss, outP_val]
    by_cases cj : j < 2
    · rw [decide_eq_true (by omega), condP_true]
      unfold m_fieldfarelaw7_MeansOnetttttttthtblthb
      rw [vrow_len vs2.sl, outP_val]
      unfold m_fieldfarelaw7_MeansOnetttttttthtblthbth
      rw [vrow_len vs2.sl, outP_val]
      unfold m_fieldfarelaw7_MeansOnetttttttthtblthbthtb
      refine loopP_rule (I := fun t G' => ∃ k : Nat, t = (s1, s2, .int .i64 j, .int .i64 (sumM ((vals Y).take k) j), .int .i64 Y.length, .int .i64 Y.length, .int .i64 k) ∧ k ≤ Y.length ∧ G' = G)
        (μ := fun t _ => match t.2.2.2.2.2.2 with | .int _ z => Y.length - z.toNat | _ => 0) ?_ ⟨0, rfl, Nat.zero_le _, rfl⟩
      rintro t G' ⟨k, rfl, hk, rfl⟩ rec2 hrec2
      unfold m_fieldfarelaw7_MeansOnetttttttthtblthbthtbl
      dsimp only
      rw [w_lss, outP_val]
      have bnd := sumM_bnd (L := (vals Y).take k) (i := j) (a := -1048576) (b := 1048576) fun V hV => by
        obtain ⟨y, hy, rfl⟩ := List.mem_map.1 (List.mem_of_mem_take hV)
        have := hYd y hy
        rw [getD_at (by omega)]
        exact this.2 _ (List.getElem_mem _)
      rw [List.length_take, ly] at bnd
      by_cases ck : k < Y.length
      · obtain ⟨p2, d1, _, d3⟩ := vrow_at vs2.sl ck
        have he := vs2.el _ (List.getElem_mem ck)
        have hv := hYd _ (List.getElem_mem ck)
        have cl : j < Y[k].2.2.length := by omega
        obtain ⟨q, f1, _, f3⟩ := he.is.at cl
        have hx := hv.2 _ (List.getElem_mem cl)
        have e : sumM ((vals Y).take (k + 1)) j = sumM ((vals Y).take k) j + Y[k].2.2.getD j 0 := by
          rw [List.take_succ_eq_append_getElem (by rw [ly]; exact ck), sumM_snoc]; simp
        rw [decide_eq_true (by omega), condP_true, d1, outP_val, w_load_c, d3, vO_some, outP_val, f1, outP_val, w_load_c, f3, vO_some, outP_val, w_cint, outP_val, wrap64_32 (by omega), w_add_in (by omega) (by omega), outP_val, w_add_in (by omega) (by omega), outP_val]
        refine hrec2 _ _ ⟨k + 1, ?_, by omega, rfl⟩ ?_
        · rw [e, getD_at cl]; rfl
        · show Y.length - ((k : Int) + 1).toNat < Y.length - (k : Int).toNat
          omega
      · obtain rfl : k = Y.length := by omega
        rw [List.take_of_length_le (by rw [ly]; exact Nat.le_refl _)] at bnd ⊢
        have cz : j < z.2.2.length := by rw [eZ, lm]; exact cj
        obtain ⟨q, f1, _, f3⟩ := hz.1.os.is.at cz
        have ez : z.2.2[j] = sumM (vals Y) j / (Y.length : Int) := by
          have : z.2.2[j]? = some (sumM (vals Y) j / (Y.length : Int)) := by
            rw [eZ]; unfold meanV
            rw [List.getElem?_map, List.getElem?_range cj, ly]; rfl
          rw [List.getElem?_eq_getElem cz] at this
          exact Option.some.inj this
        have hx := hz.1.in32 _ (List.getElem_mem cz)
        rw [ez] at f3 hx
        have mo := mean_of (s := sumM (vals Y) j) (n := (Y.length : Int)) (by omega)
        generalize sumM (vals Y) j = S at *
        generalize S / (Y.length : Int) = m at *
        have e1 : (m + 1) * (Y.length : Int) = m * (Y.length : Int) + (Y.length : Int) := by rw [Int.add_mul, Int.one_mul]
        rw [decide_eq_false (by omega), condP_false, a1', outP_val, w_load_c, a3, vO_some, outP_val, f1, outP_val, w_load_c, f3, vO_some, outP_val, w_cint, outP_val, wrap64_32 hx, w_mul_in (by omega) (by omega), outP_val, w_gtr, decide_eq_false (by omega)]
        repeat (first | rw [outP_val] | rw [guardP_true] | rw [guardP_false] | rw [condP_true] | rw [condP_false] | rw [boolIs_bool] | rw [boolIs_undef] | rw [beq_tt] | rw [beq_ff] | rw [Bool.not_true] | rw [Bool.not_false] | rw [outP_skip] | rw [w_pick_b] | rw [if_pos rfl] | rw [if_neg Bool.false_ne_true] | rw [w_fieldAddr_ptr] | rw [w_nil_ptr] | rw [Nat.zero_add] | rw [w_load_c] | rw [w_load_n] | rw [vO_some] | rw [w_store_c] | rw [w_not] | rw [w_lss] | rw [w_leq] | rw [w_gtr] | rw [w_geq] | rw [w_eql] | rw [w_neq] | rw [w_cint] | rw [w_min2_int] | rw [w_max2_int] | rw [w_sub_in (by omega) (by omega)] | rw [w_mul_in (by omega) (by omega)] | rw [outP_enter])
        rw [w_add_in (by omega) (by omega)]
        repeat (first | rw [outP_val] | rw [guardP_true] | rw [guardP_false] | rw [condP_true] | rw [condP_false] | rw [boolIs_bool] | rw [boolIs_undef] | rw [beq_tt] | rw [beq_ff] | rw [Bool.not_true] | rw [Bool.not_false] | rw [outP_skip] | rw [w_pick_b] | rw [if_pos rfl] | rw [if_neg Bool.false_ne_true] | rw [w_fieldAddr_ptr] | rw [w_nil_ptr] | rw [Nat.zero_add] | rw [w_load_c] | rw [w_load_n] | rw [vO_some] | rw [w_store_c] | rw [w_not] | rw [w_lss] | rw [w_leq] | rw [w_gtr] | rw [w_geq] | rw [w_eql] | rw [w_neq] | rw [w_cint] | rw [w_min2_int] | rw [w_max2_int] | rw [w_add_in (by omega) (by omega)] | rw [w_sub_in (by omega) (by omega)] | rw [outP_enter])
        rw [w_mul_in (by rw [e1]; omega) (by rw [e1]; omega), e1]
        repeat (first | rw [outP_val] | rw [guardP_true] | rw [guardP_false] | rw [condP_true] | rw [condP_false] | rw [boolIs_bool] | rw [boolIs_undef] | rw [beq_tt] | rw [beq_ff] | rw [Bool.not_true] | rw [Bool.not_false] | rw [outP_skip] | rw [w_pick_b] | rw [if_pos rfl] | rw [if_neg Bool.false_ne_true] | rw [w_fieldAddr_ptr] | rw [w_nil_ptr] | rw [Nat.zero_add] | rw [w_load_c] | rw [w_load_n] | rw [vO_some] | rw [w_store_c] | rw [w_not] | rw [w_lss] | rw [w_gtr] | rw [w_geq] | rw [w_eql] | rw [w_neq] | rw [w_cint] | rw [w_min2_int] | rw [w_max2_int] | rw [w_add_in (by omega) (by omega)] | rw [w_sub_in (by omega) (by omega)] | rw [w_mul_in (by omega) (by omega)] | rw [outP_enter])
        rw [w_leq, decide_eq_false (by omega)]
        repeat (first | rw [outP_val] | rw [guardP_true] | rw [guardP_false] | rw [condP_true] | rw [condP_false] | rw [boolIs_bool] | rw [boolIs_undef] | rw [beq_tt] | rw [beq_ff] | rw [Bool.not_true] | rw [Bool.not_false] | rw [outP_skip] | rw [w_pick_b] | rw [if_pos rfl] | rw [if_neg Bool.false_ne_true] | rw [w_fieldAddr_ptr] | rw [w_nil_ptr] | rw [Nat.zero_add] | rw [w_load_c] | rw [w_load_n] | rw [vO_some] | rw [w_store_c] | rw [w_not] | rw [w_lss] | rw [w_leq] | rw [w_gtr] | rw [w_geq] | rw [w_eql] | rw [w_neq] | rw [w_cint] | rw [w_min2_int] | rw [w_max2_int] | rw [w_sub_in (by omega) (by omega)] | rw [w_mul_in (by omega) (by omega)] | rw [outP_enter])
        rw [w_add_in (by omega) (by omega), outP_val]
        refine hrec _ _ ⟨j + 1, by rfl, by omega, rfl⟩ ?_
        show 2 - ((j : Int) + 1).toNat < 2 - (j : Int).toNat
        omega
    · rw [decide_eq_false (by omega), condP_false]
      exact hK _ x12
end
end Go.Ab
