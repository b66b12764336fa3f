/- means.Middles: what it tells, at any number of turns. -/
import Derived.Test.YtjpjmeidpjjgdaaGreatDoorMdl
import Derived.Test.YtjpjmeidpjjgdaaGreatDoorMid
namespace Go.Ab
noncomputable section
open Go.Proofs
set_option maxRecDepth 10000
variable {H H' : AH}

/-! Plain. -/
def nearM (M : List (List Int)) (V : List Int) : Int := (orderM M V).headD (-1)
def addM (n : Nat) (M : List (List Int)) (V : List Int) : List (List Int) := if M.length < n ∧ V ∉ M then M ++ [V] else M
def begM (n : Nat) (L : List (List Int)) : List (List Int) := L.foldl (addM n) []
theorem begM_snoc (n : Nat) (L : List (List Int)) (V : List Int) : begM n (L ++ [V]) = addM n (begM n L) V := by simp [begM]
def ofM (M L : List (List Int)) (i : Nat) : List (List Int) := L.filter fun V => decide (nearM M V = (i : Int))
def turnM (M L : List (List Int)) : List (List Int) := (List.range M.length).map fun i => midV (M.getD i []) (ofM M L i)
def iterM (L : List (List Int)) : Nat → List (List Int) → List (List Int)
  | 0, M => M
  | k + 1, M => turnM (iterM L k M) L
def midsM (n r : Int) (L : List (List Int)) : List (List Int) := iterM L (min (max r 0) 10).toNat (begM (min (max n 1) 16).toNat L)
theorem turnM_len (M L : List (List Int)) : (turnM M L).length = M.length := by simp [turnM]
theorem foldM_mem (n : Nat) : ∀ (L M : List (List Int)) (V : List Int), V ∈ L.foldl (addM n) M → V ∈ M ∨ V ∈ L
  | [], _, _, h => .inl h
  | W :: L, M, V, h => by
    rcases foldM_mem n L _ V h with r | r
    · unfold addM at r
      split at r
      · rcases List.mem_append.1 r with r | r
        · exact .inl r
        · exact .inr (by simp at r; simp [r])
      · exact .inl r
    · exact .inr (by simp [r])
theorem begM_mem {n : Nat} {L : List (List Int)} {V : List Int} (h : V ∈ begM n L) : V ∈ L := (foldM_mem n L [] V h).resolve_left (by simp)
theorem near_none (V : List Int) : nearM [] V = -1 := by
  unfold nearM
  rw [List.length_eq_zero_iff.1 (show (orderM [] V).length = 0 by rw [orderM_len]; rfl)]; rfl

/-! A slice of slices of vectors, each in a block of its own. -/
abbrev Vf := AV × Nat × List Vq
abbrev frow (F : List Vf) : List (List AV) := F.map fun f => [f.1]
structure Of (H : AH) (B : Nat) (s : AV) (F : List Vf) (N : Nat) : Prop where
  own : Own H 36 1 B s (frow F)
  each : ∀ j (h : j < F.length), Own H 38 1 F[j].2.1 F[j].1 (vrow F[j].2.2) ∧ (F[j].2.2 = [] → F[j].1 = .slice none 0 0 true) ∧ (F[j].2.2 ≠ [] → N ≤ F[j].2.1 ∧ F[j].2.1 < H.next ∧ F[j].2.1 ≠ B)
  apart : ∀ j k (h : j < F.length) (h' : k < F.length), j ≠ k → F[j].2.2 ≠ [] → F[k].2.2 ≠ [] → F[j].2.1 ≠ F[k].2.1
theorem Of.mono {B : Nat} {s : AV} {F : List Vf} {N : Nat} (h : Of H B s F N) {m : List Nat} (x : Ext m H H') (hm : ∀ b ∈ m, b < N ∧ b ≠ B) : Of H' B s F N := by
  have nx := x.next
  refine ⟨h.own.mono x (fun q => (hm B q).2 rfl), fun j hj => ?_, h.apart⟩
  obtain ⟨e1, e2, e3⟩ := h.each j hj
  refine ⟨?_, e2, fun q => by have := e3 q; omega⟩
  by_cases c : F[j].2.2 = []
  · rw [e2 c, c]; exact Own.nil _ _ _ _
  · exact e1.mono x (fun q => by have := hm _ q; have := e3 c; omega)
theorem of_push {Hb : AH} {B : Nat} {so : AV} {F : List Vf} (h : Of H B so F Hb.next) (x : Ext [] Hb H) (hB : Hb.next ≤ B) {i : Nat} (hi : i < F.length) (y : Vq) (hy : SlK y.1) (hlen : F[i].2.2.length ≤ 1000) (K : AV → AH → Prop)
    (hK : ∀ H' s' B', Ext [] Hb H' → Of H' B so (F.set i (s', B', F[i].2.2 ++ [y])) Hb.next → K (.tup []) H') :
    outP CC H (w_indexAddr (.sl 1) H so (.int .i64 i)) fun v6 H6 => outP CC H6 (w_load none H6 v6) fun v7 H7 => outP CC H7 (w_buildSlice PP 38 1 H7 [(0, y.1)] none) fun v8 H8 => outP CC H8 (w_append 38 1 24 H8 v7 v8 none) fun v9 H9 => outP CC H9 (w_indexAddr (.sl 1) H9 so (.int .i64 i)) fun v10 H10 => outP CC H10 (w_store 1 H10 v10 v9) K := by
  have hif : i < (frow F).length := by simpa using hi
  obtain ⟨p, a1, a2, a3, _⟩ := Own.at h.own hif .i64
  have hrow : (frow F)[i] = [F[i].1] := by simp
  rw [hrow] at a3
  obtain ⟨e1, e2, e3⟩ := h.each i hi
  obtain ⟨f1, f2, f3, f4⟩ := Own.facts e1
  have ld : ldV (H.get B) p = some F[i].1 := ldV_of (a3 0 _ rfl) f4 f1
  rw [a1, outP_val, w_load_c, ld, vO_some, outP_val]
  obtain ⟨B0, hB0, ho⟩ : ∃ B0, (F[i].2.2 ≠ [] ∧ B0 = F[i].2.1 ∨ F[i].2.2 = [] ∧ B0 = H.next) ∧ Own H 38 1 B0 F[i].1 (vrow F[i].2.2) := by
    by_cases c : F[i].2.2 = []
    · exact ⟨H.next, .inr ⟨c, rfl⟩, by rw [e2 c, c]; exact Own.nil _ _ _ _⟩
    · exact ⟨_, .inl ⟨c, rfl⟩, e1⟩
  refine push_vec ho hlen y hy _ fun G2 s2 B2 x2 hB2 o2 => ?_
  have n2 := x2.next
  have n0 := x.next
  have hne : B0 ≠ B ∧ Hb.next ≤ B0 := by
    rcases hB0 with ⟨c, e⟩ | ⟨_, e⟩
    · have := e3 c; omega
    · omega
  obtain ⟨p', b1, b2, b3, b4⟩ := Own.at (h.own.mono x2 (by simp; exact fun q => hne.1 q.symm)) hif .i64
  rw [hrow] at b3
  obtain ⟨g1, g2, g3, g4⟩ := Own.facts o2
  obtain ⟨G3, c1, c2, c3, _, c5⟩ := b4 [s2] rfl (by simp [g4]) (by simp [g1]) 1 0 s2 (by rw [g3]; rfl) (by rw [g3]; simp) (by omega) (by rw [hrow, g3]; rfl)
  rw [b1, outP_val, w_store_c]
  rw [Nat.add_zero] at c1
  rw [c1, outP_skip]
  have B2B : B2 ≠ B := by rcases hB2 with e | e <;> omega
  have B2lt : B2 < G3.next := by
    have := (Own.low o2).resolve_right (fun q => by simp at q)
    omega
  have hset : frow (F.set i (s2, B2, F[i].2.2 ++ [y])) = (frow F).set i [s2] := by simp [List.map_set]
  refine hK G3 s2 B2 ?_ ⟨by rw [hset]; exact c5, fun j hj => ?_, fun j k hj hk hjk => ?_⟩
  · refine (((x.mono (m' := [B0, B]) (by simp)).trans (x2.mono (m' := [B0, B]) (by simp))).trans (c2.mono (m' := [B0, B]) (by simp))).mono fun b hb hlt => ?_
    simp at hb; omega
  · rw [List.length_set] at hj
    rw [List.getElem_set]
    by_cases q : i = j
    · rw [if_pos q]
      exact ⟨o2.mono c2 (by simp; exact B2B), fun r => by simp at r, fun _ => ⟨by show Hb.next ≤ B2; rcases hB2 with e | e <;> omega, B2lt, B2B⟩⟩
    · rw [if_neg q]
      obtain ⟨d1, d2, d3⟩ := h.each j hj
      refine ⟨?_, d2, fun r => by have := d3 r; omega⟩
      by_cases c : F[j].2.2 = []
      · rw [d2 c, c]; exact Own.nil _ _ _ _
      · have hd := d3 c
        have : F[j].2.1 ≠ B0 := by
          rcases hB0 with ⟨c', e⟩ | ⟨_, e⟩
          · rw [e]; exact h.apart j i hj hi (fun r => q r.symm) c c'
          · omega
        exact (d1.mono x2 (by simp; exact this)).mono c2 (by simp; exact hd.2.2)
  · rw [List.length_set] at hj hk
    have far : ∀ u (hu : u < F.length), i ≠ u → F[u].2.2 ≠ [] → F[u].2.1 ≠ B2 := fun u hu q c => by
      have hd := (h.each u hu).2.2 c
      rcases hB2 with e | e
      · rcases hB0 with ⟨c', e'⟩ | ⟨_, e'⟩
        · rw [e, e']; exact h.apart u i hu hi (fun r => q r.symm) c c'
        · omega
      · omega
    rw [List.getElem_set, List.getElem_set]
    by_cases q : i = j
    · rw [if_pos q, if_neg (fun r => hjk (q.symm.trans r))]
      intro _ c
      exact fun r => far k hk (fun r => hjk (q.symm.trans r)) c r.symm
    · rw [if_neg q]
      by_cases q' : i = k
      · rw [if_pos q']
        intro c _
        exact far j hj q c
      · rw [if_neg q']; exact h.apart j k hj hk hjk
/-- A place of the vectors is set. -/
theorem zs_set {Hb : AH} {B : Nat} {s : AV} {Z : List Vq} (h : Zs H B s Z Hb.next) (x : Ext [] Hb H) (hB : Hb.next ≤ B) {i : Nat} (hi : i < Z.length) (z : Vq) (hz : VOs H z) (hz1 : Hb.next ≤ z.2.1) (hz2 : z.2.1 < H.next) (hzB : z.2.1 ≠ B) (hzn : ∀ k (hk : k < Z.length), k ≠ i → Z[k].2.1 ≠ z.2.1) (K : AV → AH → Prop)
    (hK : ∀ H', Ext [] Hb H' → Ext [B] H H' → Zs H' B s (Z.set i z) Hb.next → K (.tup []) H') :
    outP CC H (w_indexAddr (.sl 1) H s (.int .i64 i)) fun v7 H7 => outP CC H7 (w_store 1 H7 v7 z.1) K := by
  have hif : i < (vrow Z).length := by simpa using hi
  obtain ⟨p, b1, b2, b3, b4⟩ := Own.at h.own hif .i64
  have hrow : (vrow Z)[i] = [Z[i].1] := by simp
  obtain ⟨g1, g2, g3, g4⟩ := Own.facts hz.os
  obtain ⟨G, c1, c2, c3, _, c5⟩ := b4 [z.1] rfl (by simp [g4]) (by simp [g1]) 1 0 z.1 (by rw [g3]; rfl) (by rw [g3]; simp) (by omega) (by rw [hrow, g3]; rfl)
  rw [Nat.add_zero] at c1
  rw [b1, outP_val, w_store_c, c1, outP_skip]
  have hset : vrow (Z.set i z) = (vrow Z).set i [z.1] := by simp [List.map_set]
  refine hK G ?_ c2 ⟨by rw [hset]; exact c5, fun w hw => ?_, ?_, fun w hw => ?_⟩
  · exact ((x.mono (m' := [B]) (by simp)).trans c2).mono fun b hb hlt => by simp at hb; omega
  · obtain ⟨k, hk, rfl⟩ := List.mem_iff_getElem.1 hw
    rw [List.length_set] at hk
    rw [List.getElem_set]
    by_cases q : i = k
    · rw [if_pos q]; exact ⟨hz.mono c2 (by simp; exact hzB), by omega, hz1⟩
    · rw [if_neg q]
      obtain ⟨v1, v2, v3⟩ := h.vos _ (List.getElem_mem hk)
      exact ⟨v1.mono c2 (by simp; exact h.ne _ (List.getElem_mem hk)), by omega, v3⟩
  · rw [List.pairwise_iff_getElem]
    have ap := List.pairwise_iff_getElem.1 h.apart
    intro j k hj hk hjk
    rw [List.length_set] at hj hk
    rw [List.getElem_set, List.getElem_set]
    by_cases q : i = j
    · rw [if_pos q, if_neg (by omega)]
      exact fun r => hzn k hk (by omega) r.symm
    · rw [if_neg q]
      by_cases q' : i = k
      · rw [if_pos q']; exact hzn j hj (by omega)
      · rw [if_neg q']; exact ap j k hj hk hjk
  · rcases List.mem_or_eq_of_mem_set hw with q | q
    · exact h.ne w q
    · rw [q]; exact hzB

theorem vecs_el24 : elT PP 36 = some (1, [.slice none 0 0 true]) := by kernel_rfl
theorem vecs_by24 : byOf PP 36 = some 24 := by kernel_rfl
theorem any_mem (Z : List Vq) (V : List Int) : (Z.any fun z => decide (z.2.2 = V)) = true ↔ V ∈ vals Z := by
  rw [List.any_eq_true, List.mem_map]
  constructor
  · rintro ⟨z, hz, e⟩; exact ⟨z, hz, of_decide_eq_true e⟩
  · rintro ⟨z, hz, e⟩; exact ⟨z, hz, decide_eq_true e⟩
/-- The first part: the first ones that are unlike. -/
theorem begs_wp {b : Nat} {s : AV} {Y : List Vq} (h : Vs H b s Y) (hd : ∀ y ∈ Y, 1 ≤ y.2.2.length) (N R : Nat) (hN : N ≤ 16) (K : AV → AH → Prop)
    (hK : ∀ H' s' B Z, Ext [] H H' → H.next ≤ B → Zs H' B s' Z H.next → vals Z = begM N (vals Y) → Z.length ≤ Y.length → m_means_Middlestttth K (.int .i64 R) s s' H') : m_means_Middlesttth K (.int .i64 N) (.int .i64 R) s (.slice none 0 0 true) H := by
  have hL := h.len
  unfold m_means_Middlesttth
  rw [vrow_len h.sl, outP_val]
  unfold m_means_Middlesttthtb
  refine loopP_rule (I := fun t G => ∃ (j B : Nat) (s' : AV) (Z : List Vq), t = (.int .i64 N, .int .i64 R, s, s', s, .int .i64 Y.length, .int .i64 j) ∧ j ≤ Y.length ∧ Ext [] H G ∧ H.next ≤ B ∧ Zs G B s' Z H.next ∧ vals Z = begM N ((vals Y).take j) ∧ Z.length ≤ j ∧ (Z = [] → s' = .slice none 0 0 true))
    (μ := fun t _ => match t.2.2.2.2.2.2 with | .int _ z => Y.length - z.toNat | _ => 0) ?_ ⟨0, H.next, _, [], rfl, Nat.zero_le _, Ext.refl _ _, Nat.le_refl _, ⟨Own.nil _ _ _ _, by simp, List.Pairwise.nil, by simp⟩, by simp [begM], Nat.le_refl _, fun _ => rfl⟩
  rintro t G ⟨j, B, s', Z, rfl, hj, x1, hB, hz, hZ, hZj, hnil⟩ rec hrec
  unfold m_means_Middlesttthtbl
  have n1 := x1.next
  rw [w_lss, outP_val]
  by_cases cj : j < Y.length
  · obtain ⟨o, a1, a2, a3⟩ := vrow_at (h.sl.mono x1 (by simp)) cj
    have he := (h.el _ (List.getElem_mem cj)).mono0 x1
    have hel := hd _ (List.getElem_mem cj)
    have hsh := h.short _ (List.getElem_mem cj)
    obtain ⟨f1, f2, _, f3⟩ := Sl.facts he.is
    have enext : begM N ((vals Y).take (j + 1)) = addM N (vals Z) Y[j].2.2 := by
      rw [List.take_succ_eq_append_getElem (by simpa using cj), begM_snoc, hZ]; simp
    rw [decide_eq_true (by omega), condP_true, a1, outP_val, w_load_c, a3, vO_some, outP_val, w_alloc_none, outP_val, w_store_c, get_new_same, stN_one _ _ _ _ _ f1 (Nat.zero_lt_one), outP_skip]
    have x2 : Ext [] G ((G.new (.cells 38 [.slice none 0 0 true])).put G.next (some (.cells 38 ([AV.slice none 0 0 true].set 0 Y[j].1)))) := ((Ext.refl _ _).new _).put (.inl (Nat.le_refl _)) _
    have hp := get_put_same (H := G.new (.cells 38 [.slice none 0 0 true])) G.next (some (.cells 38 ([AV.slice none 0 0 true].set 0 Y[j].1)))
    have hpn : G.next < ((G.new (.cells 38 [.slice none 0 0 true])).put G.next (some (.cells 38 ([AV.slice none 0 0 true].set 0 Y[j].1)))).next := by rw [AH.next_put, next_new]; omega
    rw [show [AV.slice none 0 0 true].set 0 Y[j].1 = [Y[j].1] from rfl] at x2 hp hpn ⊢
    generalize (G.new (.cells 38 [.slice none 0 0 true])).put G.next (some (.cells 38 [Y[j].1])) = G1 at *
    have x12 := x1.trans x2
    have hz1 := hz.mono0 x2
    have he1 := he.mono0 x2
    have n2 := x2.next
    generalize G.next = p at *
    have ldp : ∀ G' : AH, Ext [] G1 G' → ldV (G'.get p) 0 = some Y[j].1 := fun G' e => by rw [e.get hpn (by simp) hp, ldV_cells, show ([Y[j].1] : List AV)[0]? = some Y[j].1 from rfl, ob_some, f2]
    have dec : Y.length - ((j : Int) + 1).toNat < Y.length - (j : Int).toNat := by omega
    rw [vrow_len hz1.own.sl, outP_val, w_lss, outP_val, boolIs_bool, beq_tt]
    have hlm : (vals Z).length = Z.length := by simp
    have skip : addM N (vals Z) Y[j].2.2 = vals Z → outP CC G1 (w_int .add G1 (.int .i64 j) (.int .i64 1)) (fun v19 H19 => rec (.int .i64 N, .int .i64 R, s, s', s, .int .i64 Y.length, v19) H19) := fun q => by
      rw [w_add_in (by omega) (by omega), outP_val]
      exact hrec _ _ ⟨j + 1, B, s', Z, by rfl, by omega, x12, hB, hz1, by rw [enext, q], by omega, hnil⟩ dec
    by_cases c1 : Z.length < N
    · rw [decide_eq_true (by omega), guardP_true, outP_val, guardP_true, outP_val, guardP_true, outP_enter]
      refine among_wp hz1.own.sl (by omega) (fun z q => ⟨(hz1.vos z q).1.el, ?_⟩) he1.is hp _ ?_
      · have : z.2.2 ∈ begM N ((vals Y).take j) := by rw [← hZ]; exact List.mem_map.2 ⟨z, q, rfl⟩
        have hm := begM_mem this
        obtain ⟨y, hy, e⟩ := List.mem_map.1 (List.mem_of_mem_take hm)
        rw [← e]; exact h.short y hy
      rw [guardP_true, w_not, outP_val, w_pick_b, outP_val, if_pos rfl]
      have am := any_mem Z Y[j].2.2
      cases c2 : Z.any fun z => decide (z.2.2 = Y[j].2.2) with
      | true =>
        rw [Bool.not_true, condP_false]
        exact skip (by unfold addM; rw [if_neg (fun q => q.2 (am.1 c2))])
      | false =>
        rw [c2] at am
        have ni : Y[j].2.2 ∉ vals Z := fun q => by have := am.2 q; cases this
        rw [Bool.not_false, condP_true, bs_nnone, outP_val, w_load_c, ldp _ ((Ext.refl _ _).new _), vO_some, outP_val]
        obtain ⟨v, G2, Bv, e1, e2, e3, e4⟩ := app_none he1.is (by omega)
        refine st e1 ?_
        have n3 := e2.next
        have hlow : Bv < G2.next := (Own.low e4).resolve_right fun r => by rw [List.map_eq_nil_iff.1 r] at hel; simp at hel
        have hz2 := hz1.mono0 e2
        refine push_zs hz2 (x12.trans e2) hB hnil (by omega) e4 (by omega) hlow he.in32 (fun z q => ?_) (fun q => ?_) _ fun G3 s3 B3 x4 hB3 hz3 => ?_
        · have := (hz1.vos z q).2.1; omega
        · have := (Own.low hz1.own).resolve_right fun r => q (List.map_eq_nil_iff.1 r)
          omega
        · rw [w_add_in (by omega) (by omega), outP_val]
          refine hrec _ _ ⟨j + 1, B3, s3, _, by rfl, by omega, x4, hB3, hz3, ?_, by simp; omega, fun q => by simp at q⟩ dec
          rw [enext]
          unfold addM
          rw [if_pos ⟨by omega, ni⟩]; simp
    · rw [decide_eq_false (by omega), guardP_false, guardP_false, guardP_false, guardP_false, w_pick_b, outP_val, if_neg (by simp), condP_false]
      exact skip (by unfold addM; rw [if_neg (by omega)])
  · rw [decide_eq_false (by omega), condP_false]
    rw [List.take_of_length_le (by simp; omega)] at hZ
    exact hK _ _ B Z x1 hB hz hZ (by omega)

theorem orderH_mem0 {M : List (List Int)} {V : List Int} (h0 : 0 < M.length) : ∃ k : Nat, k < M.length ∧ nearM M V = k := by
  have ol := orderM_len M V
  have hm : (orderM M V)[0]'(by omega) ∈ orderM M V := List.getElem_mem _
  obtain ⟨x, hx, e⟩ := List.mem_map.1 hm
  unfold orderH at hx
  rw [(sortH_perm _).mem_iff] at hx
  obtain ⟨i, hi, rfl⟩ := List.mem_map.1 hx
  refine ⟨i, List.mem_range.1 hi, ?_⟩
  unfold nearM
  rw [← head_at _ (by omega), ← e]
theorem near_cases (M : List (List Int)) (V : List Int) : (M = [] ∧ nearM M V = -1) ∨ ∃ k : Nat, k < M.length ∧ nearM M V = k := by
  by_cases c : M = []
  · subst c; exact .inl ⟨rfl, near_none V⟩
  · have h0 := List.length_pos_iff.2 c
    have ol := orderM_len M V
    obtain ⟨x, hx, e⟩ := orderH_mem0 (M := M) (V := V) h0
    exact .inr ⟨x, hx, e⟩
theorem ofM_snoc (M L : List (List Int)) (V : List Int) (i : Nat) : ofM M (L ++ [V]) i = ofM M L i ++ (if nearM M V = (i : Int) then [V] else []) := by
  unfold ofM
  rw [List.filter_append]
  congr 1
  by_cases c : nearM M V = (i : Int) <;> simp [c]
theorem Zs.vsM {B : Nat} {s : AV} {Z : List Vq} {N : Nat} (h : Zs H B s Z N) (hl : Z.length ≤ 1000) (hs : ∀ z ∈ Z, z.2.2.length ≤ 1000) : Vs H B s Z := ⟨h.own.sl, fun z q => (h.vos z q).1.el, hl, hs⟩
theorem turnM_at {M L : List (List Int)} {u : Nat} (h : u < (turnM M L).length) : (turnM M L)[u] = midV (M.getD u []) (ofM M L u) := by simp [turnM]
/-- All turns. -/
theorem turns_wp {b B0 : Nat} {s s0 : AV} {Y Z0 : List Vq} {G0 : AH} (h : Vs H b s Y) (_hd : ∀ y ∈ Y, 1 ≤ y.2.2.length) (R : Nat) (hR : R ≤ 10) (x0 : Ext [] H G0) (hB0 : H.next ≤ B0) (hz0 : Zs G0 B0 s0 Z0 H.next) (hl0 : Z0.length ≤ 1000) (hg0 : ∀ z ∈ Z0, 1 ≤ z.2.2.length ∧ z.2.2.length ≤ 1000) (K : AV → AH → Prop)
    (hK : ∀ H' Z, Ext [] H H' → Zs H' B0 s0 Z H.next → vals Z = iterM (vals Y) R (vals Z0) → K s0 H') : m_means_Middlestttth K (.int .i64 R) s s0 G0 := by
  have hL := h.len
  unfold m_means_Middlestttth m_means_Middlestttthtb
  refine loopP_rule (I := fun t G => ∃ (k : Nat) (Z : List Vq), t = (s, s0, .int .i64 R, .int .i64 k) ∧ k ≤ R ∧ Ext [] H G ∧ Zs G B0 s0 Z H.next ∧ vals Z = iterM (vals Y) k (vals Z0) ∧ Z.length ≤ 1000 ∧ ∀ z ∈ Z, 1 ≤ z.2.2.length ∧ z.2.2.length ≤ 1000)
    (μ := fun t _ => match t.2.2.2 with | .int _ z => R - z.toNat | _ => 0) ?_ ⟨0, Z0, rfl, Nat.zero_le _, x0, hz0, rfl, hl0, hg0⟩
  rintro t G ⟨k, Z, rfl, hk, x, hz, hZ, hl, hg⟩ rec hrec
  unfold m_means_Middlestttthtbl
  rw [w_lss, outP_val]
  unfold m_means_Middlestttthtblt
  by_cases ck : k < R
  · rw [decide_eq_true (by omega), condP_true]
    unfold m_means_Middlestttthtbltthb
    obtain ⟨G1, q1, x1, n1, o1⟩ := own_make (P := PP) (H := G) vecs_el24 vecs_by24 (by omega) rfl rfl rfl (n := Z.length) (by omega) (by omega) .i64 .i64
    rw [vrow_len hz.own.sl, outP_val, q1, outP_val]
    have nx := x.next
    have hlm : (vals Z).length = Z.length := by simp
    obtain ⟨F0, hF0⟩ : ∃ F : List Vf, F = List.replicate Z.length (.slice none 0 0 true, 0, []) := ⟨_, rfl⟩
    have lF0 : F0.length = Z.length := by rw [hF0]; simp
    have aF0 : ∀ i (hi : i < F0.length), F0[i] = (.slice none 0 0 true, 0, []) := by subst hF0; intro i hi; simp
    have of1 : Of G1 G.next (.slice (some (G.next, 0)) Z.length Z.length true) F0 G.next := by
      refine ⟨?_, fun j hj => ?_, fun j k hj hk _ c _ => ?_⟩
      · rw [hF0, show frow (List.replicate Z.length ((.slice none 0 0 true, 0, []) : Vf)) = List.replicate Z.length [.slice none 0 0 true] by simp]; exact o1
      · rw [aF0 j hj]; exact ⟨Own.nil _ _ _ _, fun _ => rfl, fun q => (q rfl).elim⟩
      · rw [aF0 j hj] at c; exact (c rfl).elim
    generalize (AV.slice (some (G.next, 0)) Z.length Z.length true) = so at *
    unfold m_means_Middlestttthtbltthbth
    have vY : ∀ {G' : AH}, Ext [] H G' → Vs G' b s Y := fun e => h.mono0 e
    rw [vrow_len (vY (x.trans x1)).sl, outP_val]
    unfold m_means_Middlestttthtbltthbthtb
    refine loopP_rule (I := fun t Gx => ∃ (j : Nat) (F : List Vf), t = (s, s0, so, .int .i64 R, .int .i64 k, s, .int .i64 Y.length, .int .i64 j) ∧ j ≤ Y.length ∧ Ext [] G Gx ∧ Of Gx G.next so F G.next ∧ F.length = Z.length ∧ ∀ i (hi : i < F.length), vals F[i].2.2 = ofM (vals Z) ((vals Y).take j) i ∧ (∀ y ∈ F[i].2.2, y ∈ Y) ∧ F[i].2.2.length ≤ j)
      (μ := fun t _ => match t.2.2.2.2.2.2.2 with | .int _ z => Y.length - z.toNat | _ => 0) ?_ ⟨0, F0, rfl, Nat.zero_le _, x1, of1, lF0, fun i hi => by rw [aF0 i hi]; exact ⟨rfl, by simp, Nat.le_refl _⟩⟩
    rintro t G2 ⟨j, F, rfl, hj, x2, hf, lF, aF⟩ rec2 hrec2
    unfold m_means_Middlestttthtbltthbthtbl
    dsimp only
    rw [w_lss, outP_val]
    have x02 := x.trans x2
    by_cases cj : j < Y.length
    · obtain ⟨p, a1, _, a3⟩ := vrow_at (vY x02).sl cj
      have he := (vY x02).el _ (List.getElem_mem cj)
      have vz : Vs G2 B0 s0 Z := (hz.mono0 x2).vsM hl fun z q => (hg z q).2
      rw [decide_eq_true (by omega), condP_true, a1, outP_val, w_load_c, a3, vO_some, outP_val, outP_enter]
      refine nearest_wp vz he.is he.in32 _ fun G3 x3 => ?_
      rw [show (orderM (vals Z) Y[j].2.2).headD (-1) = nearM (vals Z) Y[j].2.2 from rfl]
      have dec : Y.length - ((j : Int) + 1).toNat < Y.length - (j : Int).toNat := by omega
      have snoc : ∀ i : Nat, ofM (vals Z) ((vals Y).take (j + 1)) i = ofM (vals Z) ((vals Y).take j) i ++ (if nearM (vals Z) Y[j].2.2 = (i : Int) then [Y[j].2.2] else []) := fun i => by
        rw [List.take_succ_eq_append_getElem (by simpa using cj), ofM_snoc]; simp
      have f3 := hf.mono x3 (by simp)
      rcases near_cases (vals Z) Y[j].2.2 with ⟨c, e⟩ | ⟨u, hu, e⟩
      · rw [e, w_geq, outP_val, show decide ((0 : Int) ≤ -1) = false from rfl, condP_false, w_add_in (by omega) (by omega), outP_val]
        refine hrec2 _ _ ⟨j + 1, F, by rfl, by omega, x2.trans x3, f3, lF, fun i hi => ?_⟩ dec
        have : Z.length = 0 := by rw [← hlm, c]; rfl
        omega
      · rw [hlm] at hu
        rw [e, w_geq, outP_val, decide_eq_true (by omega), condP_true]
        have hF := aF u (by omega)
        refine of_push f3 (x2.trans x3) (Nat.le_refl _) (i := u) (by omega) Y[j] (Sl.slk he.is) (by omega) _ fun G4 s4 B4 x4 f4 => ?_
        rw [w_add_in (by omega) (by omega), outP_val]
        refine hrec2 _ _ ⟨j + 1, _, by rfl, by omega, x4, f4, by rw [List.length_set]; exact lF, fun i hi => ?_⟩ dec
        rw [List.length_set] at hi
        rw [snoc i, e, List.getElem_set]
        obtain ⟨w1, w2, w3⟩ := aF i hi
        by_cases q : u = i
        · subst q
          rw [if_pos rfl, if_pos rfl]
          refine ⟨?_, fun y hy => ?_, by simp; omega⟩
          · rw [← w1]; simp
          · rcases List.mem_append.1 hy with r | r
            · exact w2 y r
            · rw [List.mem_singleton.1 r]; exact List.getElem_mem cj
        · rw [if_neg q, if_neg (by omega), List.append_nil]
          exact ⟨w1, w2, by omega⟩
    · rw [decide_eq_false (by omega), condP_false]
      rw [List.take_of_length_le (by simp; omega)] at aF
      unfold m_means_Middlestttthtbltthbtt
      rw [vrow_len (hz.mono0 x2).own.sl, outP_val]
      unfold m_means_Middlestttthtbltthbtttb
      refine loopP_rule (I := fun t Gx => ∃ (i : Nat) (Z' : List Vq), t = (s, s0, so, .int .i64 R, .int .i64 k, .int .i64 Z.length, .int .i64 i) ∧ i ≤ Z.length ∧ Ext [] H Gx ∧ G.next ≤ Gx.next ∧ Zs Gx B0 s0 Z' H.next ∧ Of Gx G.next so F G.next ∧ Z'.length = Z.length ∧ (∀ u (hu : u < Z'.length) (hu' : u < Z.length), i ≤ u → Z'[u] = Z[u]) ∧ ∀ u (hu : u < Z'.length), u < i → Z'[u].2.2 = midV ((vals Z).getD u []) (ofM (vals Z) (vals Y) u))
        (μ := fun t _ => match t.2.2.2.2.2.2 with | .int _ z => Z.length - z.toNat | _ => 0) ?_ ⟨0, Z, rfl, Nat.zero_le _, x02, x2.next, hz.mono0 x2, hf, rfl, fun _ _ _ _ => rfl, fun u _ q => by omega⟩
      rintro t G5 ⟨i, Z', rfl, hi, x5, n5, hz5, f5, lZ', old, new⟩ rec3 hrec3
      unfold m_means_Middlestttthtbltthbtttbl
      dsimp only
      rw [w_lss, outP_val]
      by_cases ci : i < Z.length
      · have ci' : i < Z'.length := by omega
        have ez := old i ci' ci (Nat.le_refl _)
        obtain ⟨p, a1, _, a3⟩ := vrow_at hz5.own.sl ci'
        obtain ⟨g1, g2, g3⟩ := f5.each i (by omega)
        obtain ⟨w1, w2, w3⟩ := aF i (by omega)
        obtain ⟨pf, d1, _, d3, _⟩ := Own.at f5.own (j := i) (by simp; omega) .i64
        have hrow : (frow F)[i]'(by simp; omega) = [F[i].1] := by simp
        rw [hrow] at d3
        obtain ⟨k1, k2, k3, k4⟩ := Own.facts g1
        have ldf : ldV (G5.get G.next) pf = some F[i].1 := ldV_of (d3 0 _ rfl) k4 k1
        have vm := hz5.vos _ (List.getElem_mem ci')
        have gz := hg _ (List.getElem_mem ci)
        rw [ez] at a3 vm
        have vF : Vs G5 F[i].2.1 F[i].1 F[i].2.2 := ⟨g1.sl, fun y q => (vY x5).el y (w2 y q), by omega, fun y q => h.short y (w2 y q)⟩
        have bB : B0 < G.next := (Own.low hz.own).resolve_right fun q => by
          have := List.map_eq_nil_iff.1 q
          rw [this] at ci; simp at ci
        have fin : ∀ (v : AV) (G6 : AH) (Bv : Nat), Ext [] G5 G6 → VOs G6 (v, Bv, midV Z[i].2.2 (vals F[i].2.2)) → H.next ≤ Bv → Bv < G6.next → Bv ≠ B0 → (∀ u (hu : u < Z'.length), u ≠ i → Z'[u].2.1 ≠ Bv) →
            outP CC G6 (w_indexAddr (.sl 1) G6 s0 (.int .i64 i)) (fun v7 H7 => outP CC H7 (w_store 1 H7 v7 v) fun _ H8 => outP CC H8 (w_int .add H8 (.int .i64 i) (.int .i64 1)) fun v9 H9 => rec3 (s, s0, so, .int .i64 R, .int .i64 k, .int .i64 Z.length, v9) H9) := by
          intro v G6 Bv x6 ov hv1 hv2 hv3 hv4
          refine zs_set (hz5.mono0 x6) (x5.trans x6) hB0 ci' (v, Bv, midV Z[i].2.2 (vals F[i].2.2)) ov hv1 hv2 hv3 hv4 _ fun G7 x7 x67 z7 => ?_
          have n6 := x6.next
          have n7 := x67.next
          rw [w_add_in (by omega) (by omega), outP_val]
          refine hrec3 _ _ ⟨i + 1, _, by rfl, by omega, x7, by omega, z7, (f5.mono x6 (by simp)).mono x67 (by simp; omega), by rw [List.length_set]; exact lZ', fun u hu hu' q => ?_, fun u hu q => ?_⟩ ?_
          · rw [List.length_set] at hu
            rw [List.getElem_set, if_neg (by omega)]; exact old u hu hu' (by omega)
          · rw [List.length_set] at hu
            rw [List.getElem_set]
            by_cases r : i = u
            · subst r
              rw [if_pos rfl, vals_at ci, ← w1]
            · rw [if_neg r]; exact new u hu (by omega)
          · show Z.length - ((i : Int) + 1).toNat < Z.length - (i : Int).toNat
            omega
        rw [decide_eq_true (by omega), condP_true, a1, outP_val, w_load_c, a3, vO_some, outP_val, d1, outP_val, w_load_c, ldf, vO_some, outP_val, outP_enter]
        refine middle_wp vm.1.os.is gz.2 vF _ (fun c => ?_) (fun c G6 s6 B6 x6 hB6 o6 => ?_)
        · have e : midV Z[i].2.2 (vals F[i].2.2) = Z[i].2.2 := by unfold midV; rw [if_pos (by rw [c]; rfl)]
          refine fin Z[i].1 G5 Z[i].2.1 (Ext.refl _ _) ?_ vm.2.2 vm.2.1 ?_ (fun u hu q r => ?_)
          · rw [e]; exact vm.1
          · have := hz5.ne _ (List.getElem_mem ci'); rw [ez] at this; exact this
          · have ap := List.pairwise_iff_getElem.1 hz5.apart
            rw [← ez] at r
            rcases Nat.lt_or_gt_of_ne q with q | q
            · exact ap u i hu ci' q r
            · exact ap i u ci' hu q r.symm
        · have lm := midV_len Z[i].2.2 (vals F[i].2.2)
          refine fin s6 G6 B6 x6 ⟨o6, midV_32 vm.1.in32 fun V hV => ?_⟩ (by have := x5.next; omega) ?_ (by omega) (fun u hu q r => ?_)
          · obtain ⟨y, hy, rfl⟩ := List.mem_map.1 hV
            exact (vF.el y hy).in32
          · exact (Own.low o6).resolve_right fun q => by
              have := congrArg List.length (List.map_eq_nil_iff.1 q)
              rw [lm, List.length_nil] at this; omega
          · have := (hz5.vos _ (List.getElem_mem hu)).2.1; omega
      · rw [decide_eq_false (by omega), condP_false, w_add_in (by omega) (by omega), outP_val]
        have eZ : vals Z' = turnM (vals Z) (vals Y) := by
          refine List.ext_getElem (by rw [turnM_len, hlm]; simp; omega) fun u h1 h2 => ?_
          have hu : u < Z'.length := by simpa using h1
          rw [List.getElem_map, turnM_at]
          exact new u hu (by omega)
        refine hrec _ _ ⟨k + 1, Z', by rfl, by omega, x5, hz5, by rw [eZ, hZ]; rfl, by omega, fun z q => ?_⟩ ?_
        · obtain ⟨u, hu, rfl⟩ := List.mem_iff_getElem.1 q
          rw [new u hu (by omega), midV_len, vals_at (by omega)]
          exact hg _ (List.getElem_mem _)
        · show R - ((k : Int) + 1).toNat < R - (k : Int).toNat
          omega
  · rw [decide_eq_false (by omega), condP_false]
    obtain rfl : k = R := by omega
    exact hK _ _ x hz hZ
theorem midsN_wp {b : Nat} {s : AV} {Y : List Vq} (h : Vs H b s Y) (hd : ∀ y ∈ Y, 1 ≤ y.2.2.length) (n r : Int) (K : AV → AH → Prop)
    (hK : ∀ H' s' B Z, Ext [] H H' → H.next ≤ B → Zs H' B s' Z H.next → vals Z = midsM n r (vals Y) → K s' H') : CC.call 22 [.int .i64 n, .int .i64 r, s] H K := by
  refine m_means_Middles_ok _ _ _ _ _ ?_
  unfold m_means_Middles m_means_Middlest
  rw [w_max2_int, outP_val, w_min2_int, outP_val, w_max2_int, outP_val, w_min2_int, outP_val, show min (max n 1) 16 = (((min (max n 1) 16).toNat : Nat) : Int) by omega, show min (max r 0) 10 = (((min (max r 0) 10).toNat : Nat) : Int) by omega]
  unfold m_means_Middlestt
  refine begs_wp h hd _ _ (by omega) _ fun G s' B Z x hB hz hZ hl => ?_
  have hL := h.len
  refine turns_wp h hd _ (by omega) x hB hz (by omega) (fun z q => ?_) _ fun H' Z' x' hz' hZ' => hK _ _ B Z' x' hB hz' (by rw [hZ', hZ]; rfl)
  have : z.2.2 ∈ begM (min (max n 1) 16).toNat (vals Y) := by rw [← hZ]; exact List.mem_map.2 ⟨z, q, rfl⟩
  obtain ⟨y, hy, e⟩ := List.mem_map.1 (begM_mem this)
  rw [← e]; exact ⟨hd y hy, h.short y hy⟩
end
end Go.Ab
