/- MeansOwn: what it does, at any number and any vectors. -/
import Derived.Test.YtoafnnphjbdedaaGreatDoorMid
import Derived.Test.YtoafnnphjbdedaaGreatDoorM3
namespace Go.Ab
noncomputable section
open Go.Proofs
set_option maxRecDepth 10000
variable {H H' : AH}

theorem zs_inj : ∀ {Z : List Vq}, (Z.Pairwise fun x y => x.2.1 ≠ y.2.1) → ∀ x ∈ Z, ∀ y ∈ Z, x.2.1 = y.2.1 → x = y
  | [], _ => by simp
  | z :: Z, h => by
    obtain ⟨h1, h2⟩ := List.pairwise_cons.1 h
    intro x hx y hy e
    rcases List.mem_cons.1 hx with q | q <;> rcases List.mem_cons.1 hy with r | r
    · rw [q, r]
    · rw [q] at e; exact absurd e (h1 _ r)
    · rw [r] at e; exact absurd e.symm (h1 _ q)
    · exact zs_inj h2 x q y r e
theorem meansOwn_wp {b : Nat} {s : AV} {Y : List Vq} (n : Int) (h : Sl H 1 b s (vrow Y)) (hy : ∀ y ∈ Y, VEl H y) (hl : Laid H) (K : AV → AH → Prop) (hK : ∀ H', Ext [] H H' → K (.bool true) H') :
    CC.call 3 [.int .i64 n, s] H K := by
  refine m_fieldfarelaw7_MeansOwn_ok _ _ _ _ ?_
  unfold m_fieldfarelaw7_MeansOwn m_fieldfarelaw7_MeansOwnt
  rw [outP_enter]
  refine begun_wp hl _ ?_
  unfold m_fieldfarelaw7_MeansOwntt
  rw [w_not, outP_val, Bool.not_true, condP_false]
  unfold m_fieldfarelaw7_MeansOwnttt
  rw [outP_enter]
  refine dim_wp n _ fun d hd1 hd2 => ?_
  unfold m_fieldfarelaw7_MeansOwntttt
  rw [outP_enter]
  refine vecs_wp h hy d 10 ⟨hd1, hd2⟩ (by omega) _ fun G1 s1 B1 Z1 x1 hB1 hz1 e1 => ?_
  have hlen : ∀ z ∈ Z1, z.2.2.length = d := fun z q => by
    have := List.mem_map_of_mem (f := fun z : Vq => z.2.2) q
    rw [e1] at this
    obtain ⟨y, _, e⟩ := List.mem_map.1 this
    rw [← e]; exact vecL_len _ _
  have hZ1 : Z1.length ≤ 10 := by
    have := congrArg List.length e1
    rw [List.length_map, List.length_map, List.length_take] at this
    omega
  unfold m_fieldfarelaw7_MeansOwnttttt
  rw [vrow_len hz1.own.sl, outP_val, w_eql, outP_val]
  by_cases c : Z1 = []
  · rw [decide_eq_true (by rw [c]; rfl), condP_true, outP_enter]
    refine mids_nil _ fun G2 x2 => ?_
    have l0 : w_len PP 22 G2 (.slice none 0 0 true) = some (.val (.int .i64 0) G2) := vrow_len (H := G2) (b := 0) (Y := []) (Own.nil G2 28 1 0).sl G2
    rw [l0, outP_val, w_eql, outP_val, decide_eq_true rfl]
    exact hK _ (x1.trans x2)
  have hpos := List.length_pos_iff.2 c
  rw [decide_eq_false (by omega), condP_false]
  unfold m_fieldfarelaw7_MeansOwntttttt
  rw [outP_enter]
  refine mids_wp hz1.own.sl (fun z q => (hz1.vos z q).1.el) (by omega) ⟨hd1, hd2⟩ hlen _ fun G2 ms B2 Z2 x2 hB2 hz2 hne2 hle2 hlen2 => ?_
  have hpos2 := List.length_pos_iff.2 (hne2 c)
  unfold m_fieldfarelaw7_MeansOwnttttttt
  have hz12 := hz1.mono0 x2
  obtain ⟨o, a1, a2, a3⟩ := vrow_at hz12.own.sl hpos
  have a1' : ∀ G : AH, w_indexAddr (.sl 1) G s1 (.int .i64 0) = some (.val (.ptr (some (B1, o))) G) := a1
  have hz0 := (hz12.vos _ (List.getElem_mem hpos)).1
  have hl0 := hlen _ (List.getElem_mem hpos)
  rw [a1', outP_val, w_load_c, a3, vO_some, outP_val, outP_enter]
  refine copy_wp hz0.os.is (by omega) _ fun G3 cc Bc x3 hBc oc => ?_
  unfold m_fieldfarelaw7_MeansOwntttttttth
  have hz3 := hz2.mono0 x3
  have n1 := x1.next
  have n2 := x2.next
  have n3 := x3.next
  have mem : ∀ q ∈ Z2.map (fun z => z.2.1), G1.next ≤ q ∧ q < G2.next ∧ q ≠ B2 := fun q hq => by
    obtain ⟨z, hz, e⟩ := List.mem_map.1 hq
    subst e
    exact ⟨(hz2.vos z hz).2.2, (hz2.vos z hz).2.1, hz2.ne z hz⟩
  rw [vrow_len hz3.own.sl, outP_val]
  unfold m_fieldfarelaw7_MeansOwntttttttthtb
  refine loopP_rule (I := fun t G => ∃ j : Nat, t = (.int .i64 d, s, s1, ms, cc, .int .i64 Z2.length, .int .i64 j) ∧ j ≤ Z2.length ∧ Ext (Z2.map fun z => z.2.1) G3 G ∧ ∀ z ∈ Z2, ∃ L : List Int, L.length = d ∧ Os 21 .i32 G z.2.1 z.1 L)
    (μ := fun t _ => match t.2.2.2.2.2.2 with | .int _ z => Z2.length - z.toNat | _ => 0) ?_ ⟨0, rfl, Nat.zero_le _, Ext.refl _ _, fun z q => ⟨_, hlen2 z q, (hz3.vos z q).1.os⟩⟩
  rintro t G ⟨j, rfl, hj, x, hv⟩ rec hrec
  unfold m_fieldfarelaw7_MeansOwntttttttthtbl
  rw [w_lss, outP_val]
  by_cases cj : j < Z2.length
  · obtain ⟨o, a1, a2, a3⟩ := vrow_at (hz3.own.mono x (fun q => (mem _ q).2.2 rfl)).sl cj
    obtain ⟨L, hL, oL⟩ := hv _ (List.getElem_mem cj)
    obtain ⟨p, b1, b2, b3, b4⟩ := oL.at (j := 0) (by omega)
    obtain ⟨G', y1, y2, y3, y4⟩ := b4 (IntKind.i32.wrap (L[0] + 1))
    have bb : ∀ G : AH, w_indexAddr (.sl 1) G Z2[j].1 (.int .i64 0) = some (.val (.ptr (some (Z2[j].2.1, p))) G) := b1
    rw [decide_eq_true (by omega), condP_true, a1, outP_val, w_load_c, a3, vO_some, outP_val, bb, outP_val, w_load_c, b3, vO_some, outP_val, w_add, outP_val, bb, outP_val, w_store_c, y1, outP_skip, w_add_in (by omega) (by omega), outP_val]
    refine hrec _ _ ⟨j + 1, by rfl, by omega, x.trans (y2.mono fun q hq _ => ?_), fun z q => ?_⟩ ?_
    · rw [List.mem_singleton.1 hq]
      exact List.mem_map_of_mem (f := fun z : Vq => z.2.1) (List.getElem_mem cj)
    · by_cases e : z.2.1 = Z2[j].2.1
      · rw [zs_inj hz3.apart z q _ (List.getElem_mem cj) e]
        exact ⟨_, by rw [List.length_set]; exact hL, y4⟩
      · obtain ⟨M, hM, oM⟩ := hv z q
        exact ⟨M, hM, Own.mono oM y2 (by simp; exact e)⟩
    · show Z2.length - ((j : Int) + 1).toNat < Z2.length - (j : Int).toNat
      omega
  rw [decide_eq_false (by omega), condP_false]
  unfold m_fieldfarelaw7_MeansOwnttttttttt
  have oc' := Own.mono oc x fun q => by have := mem _ q; omega
  obtain ⟨p, b1, b2, b3, b4⟩ := Os.at oc' (j := 0) (by omega)
  obtain ⟨G5, y1, y2, y3, y4⟩ := b4 (IntKind.i32.wrap (Z1[0].2.2[0] - 1))
  have bb : ∀ G : AH, w_indexAddr (.sl 1) G cc (.int .i64 0) = some (.val (.ptr (some (Bc, p))) G) := b1
  rw [bb, outP_val, w_load_c, b3, vO_some, outP_val, w_sub, outP_val, bb, outP_val, w_store_c, y1, outP_skip]
  have x14 : Ext [] G1 G := (((x2.trans x3).mono (m' := Z2.map fun z => z.2.1) (by simp)).trans x).mono fun q hq hlt => by have := mem q hq; omega
  have x15 : Ext [] G1 G5 := ((x14.mono (m' := [Bc]) (by simp)).trans y2).mono fun q hq hlt => by rw [List.mem_singleton.1 hq] at hlt; omega
  have x05 := x1.trans x15
  unfold m_fieldfarelaw7_MeansOwntttttttttt
  rw [outP_enter]
  refine vecs_wp (h.mono x05 (by simp)) (fun y q => (hy y q).mono0 x05) d 10 ⟨hd1, hd2⟩ (by omega) _ fun G6 s6 B6 Z6 x6 hB6 hz6 e6 => ?_
  have hz16 := hz1.mono0 (x15.trans x6)
  have ee := e1.trans e6.symm
  have hll : Z1.length = Z6.length := by
    have := congrArg List.length ee
    rwa [List.length_map, List.length_map] at this
  unfold m_fieldfarelaw7_MeansOwnttttttttttth
  rw [vrow_len hz16.own.sl, outP_val]
  unfold m_fieldfarelaw7_MeansOwnttttttttttthtb
  refine loopP_rule (I := fun t G' => ∃ j : Nat, t = (s1, ms, s6, .int .i64 Z1.length, .int .i64 j) ∧ j ≤ Z1.length ∧ G' = G6) (μ := fun t _ => match t.2.2.2.2 with | .int _ z => Z1.length - z.toNat | _ => 0) ?_ ⟨0, rfl, Nat.zero_le _, rfl⟩
  rintro t G' ⟨k, rfl, hk, rfl⟩ rec2 hrec2
  unfold m_fieldfarelaw7_MeansOwnttttttttttthtbl
  rw [w_lss, outP_val]
  by_cases ck : k < Z1.length
  · have ck6 : k < Z6.length := by omega
    obtain ⟨o1, c1, c2, c3⟩ := vrow_at hz16.own.sl ck
    obtain ⟨o2, d1, d2, d3⟩ := vrow_at hz6.own.sl ck6
    have q := congrArg (fun l : List (List Int) => l[k]?) ee
    simp only [List.getElem?_map, List.getElem?_eq_getElem ck, List.getElem?_eq_getElem ck6, Option.map_some, Option.some.injEq] at q
    have hlk := hlen _ (List.getElem_mem ck)
    rw [decide_eq_true (by omega), condP_true, c1, outP_val, w_load_c, c3, vO_some, outP_val, d1, outP_val, w_load_c, d3, vO_some, outP_val, outP_enter]
    refine vecEq_wp (hz16.vos _ (List.getElem_mem ck)).1.os.is (hz6.vos _ (List.getElem_mem ck6)).1.os.is (by omega) _ ?_
    rw [decide_eq_true q, w_not, outP_val, Bool.not_true, condP_false, w_add_in (by omega) (by omega), outP_val]
    refine hrec2 _ _ ⟨k + 1, by rfl, by omega, rfl⟩ ?_
    show Z1.length - ((k : Int) + 1).toNat < Z1.length - (k : Int).toNat
    omega
  · rw [decide_eq_false (by omega), condP_false, vrow_len hz3.own.sl, outP_val, w_geq, outP_val, decide_eq_true (by omega)]
    exact hK _ (x05.trans x6)
end
end Go.Ab
