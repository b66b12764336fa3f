/- fieldfarelaw7.PoolWhole: what it does, at any input. -/
import Derived.Test.YtbahknfffhijlaaGreatDoorOwners
import Derived.Test.YtbahknfffhijlaaGreatDoorPoolMore
namespace Go.Ab
noncomputable section
open Go.Proofs
set_option maxRecDepth 10000
variable {H H' : AH}

theorem begun8_wp (h : Laid H) (K : AV → AH → Prop) (hK : K (.bool true) H) : C8.call 4 [] H K := by
  refine prim_wp (P := PP) (prim := prims8) (g := begA) (v := .bool true) (H' := H) (by kernel_rfl) ?_ hK
  show br (isLaid 224 PP.globals.size 178 (H.get 0)) (some (AV.bool true, H)) none = _
  rw [h]; rfl
abbrev smallQ (k : Int) : Prop := -5 < k ∧ k < 5
theorem small_len {l : List Int} (h1 : l.Nodup) (h2 : ∀ k ∈ l, smallQ k) : l.length ≤ 9 := by
  have := up_len (a := -4) (N := 5) (sortZ_up h1) fun x hx => by
    have := h2 x (mem_sortZ.1 hx)
    unfold smallQ at this
    omega
  rw [sortZ_le] at this
  omega
theorem small_in {k : Int} (h : smallQ k) : inI k = true := by
  unfold inI smallQ at *
  rw [leZ_eq, leZ_eq, Bool.and_eq_true, decide_eq_true_eq, decide_eq_true_eq]; omega
theorem bool_zero : zeroA PP 4 = some (.bool false) := by kernel_rfl
theorem seen_map : PP.underlying 30 = some (.map 3 4) := by kernel_rfl
/-- Whose blocks are counted. -/
theorem owners_all {fl : List Nat} {p m Bf : Nat} {sf : AV} {M : Me} {bl : Int → Nat} {s : PS} {Q : Int → Prop} (h : PlM Q H fl p m Bf sf M bl s none) {l : List Int} (hl : l = leftI (fun k => decide ((s.of k).length = 0)) (sortZ (keysM M))) :
    Up l ∧ (∀ o, s.of o ≠ [] → o ∈ l) ∧ ∀ o ∈ l, s.of o ≠ [] := by
  subst hl
  refine ⟨List.Pairwise.sublist List.filter_sublist (sortZ_up h.nd), fun o ho => ?_, fun o ho q => ?_⟩
  · refine List.mem_filter.2 ⟨mem_sortZ.2 ?_, ?_⟩
    · by_cases c : o ∈ keysM M
      · exact c
      · have := h.own o (by simp)
        rw [lookM_out c] at this
        exact absurd (os_nilS this) ho
    · show (!decide ((s.of o).length = 0)) = true
      rw [decide_eq_false fun q => ho (List.eq_nil_of_length_eq_zero q)]; rfl
  · have h2 : (!decide ((s.of o).length = 0)) = true := (List.mem_filter.1 ho).2
    rw [q] at h2
    simp at h2

theorem poolWhole_wp {b : Nat} {s : AV} {L : List (Int × Int)} (n : Int) (h : Hs H b s L) (hl : Laid H) (K : AV → AH → Prop) (hK : ∀ H', Ext [] H H' → K (.bool true) H') : C8.call 3 [.int .i64 n, s] H K := by
  refine m_fieldfarelaw7_PoolWhole_ok _ _ _ _ ?_
  unfold m_fieldfarelaw7_PoolWhole m_fieldfarelaw7_PoolWholet
  rw [outP_enter]
  refine begun8_wp hl _ ?_
  unfold m_fieldfarelaw7_PoolWholett
  rw [w_not, outP_val, Bool.not_true, condP_false]
  unfold m_fieldfarelaw7_PoolWholettt
  obtain ⟨a1, a2, a3, a4⟩ := modn n (m := 100) (by decide)
  rw [w_rem _ _ _ (by decide), outP_val, w_add_in (by omega) (by omega), outP_val, w_rem _ _ _ (by decide), outP_val]
  generalize (n.tmod 100 + 100).tmod 100 = N' at *
  obtain ⟨N, rfl⟩ : ∃ N : Nat, N' = N := ⟨N'.toNat, by omega⟩
  unfold m_fieldfarelaw7_PoolWholetttt
  rw [outP_enter]
  refine via_wp (by kernel_rfl) ?_
  refine new_plx (Q := smallQ) N _ fun G1 p h1 => ?_
  rw [show (min (max (N : Int) 0) 1000).toNat = N by omega] at h1
  unfold m_fieldfarelaw7_PoolWholettttth m_fieldfarelaw7_PoolWholettttthtb
  refine loopP_rule (I := fun t G => ∃ (j : Nat) (S : PS), t = (.int .i64 N, s, .ptr (some (p, 0)), .int .i64 j) ∧ j ≤ L.length ∧ Plx smallQ H G p S ∧ PInv N S) (μ := fun t _ => match t.2.2.2 with | .int _ z => L.length - z.toNat | _ => 0) ?_ ⟨0, _, rfl, Nat.zero_le _, h1, start_inv N⟩
  clear h1 G1
  rintro t G ⟨j, S, rfl, hj, hp, hi⟩ rec hrec
  unfold m_fieldfarelaw7_PoolWholettttthtbl
  have hsG : Hs G b s L := Sl.mono h hp.ext (by simp)
  rw [ops_len hsG, outP_val, w_lss, outP_val]
  by_cases go : j < L.length ∧ j < 30
  · have d1 : decide ((j : Int) < (L.length : Int)) = true := decide_eq_true (by omega)
    have d2 : decide ((j : Int) < 30) = true := decide_eq_true (by omega)
    obtain ⟨o, c1, c2, c3, c4⟩ := hsG.at1 go.1
    have f1 := Int.lt_tmod_of_pos L[j].1 (show (0 : Int) < 5 by decide)
    have f2 := Int.tmod_lt_of_pos L[j].1 (show (0 : Int) < 5 by decide)
    have f3 := Int.tmod_lt_of_pos L[j].2 (show (0 : Int) < 40 by decide)
    have q5 : (5 : Int) ≠ 0 := by decide
    have q40 : (40 : Int) ≠ 0 := by decide
    rw [boolIs_bool, beq_tt, d1, guardP_true, outP_val, guardP_true, w_lss, outP_val, d2, w_pick_b, outP_val, if_pos rfl, condP_true, c1, outP_val, w_fieldAddr_ptr, outP_val, Nat.add_zero, w_load_c, c3, vO_some, outP_val, w_rem _ _ _ q5, outP_val, c1, outP_val, w_fieldAddr_ptr, outP_val, w_load_c, c4, vO_some, outP_val, w_rem _ _ _ q40, outP_val, outP_enter]
    refine via_wp (by kernel_rfl) ?_
    refine size_plx hp ⟨f1, f2⟩ hi (by omega) (by omega) _ fun G2 h2 => ?_
    rw [w_add_in (by omega) (by omega), outP_val]
    refine hrec _ _ ⟨j + 1, _, by rfl, by omega, h2, size_inv hi _ _⟩ ?_
    show L.length - ((j : Int) + 1).toNat < L.length - (j : Int).toNat
    omega
  · have st : decide ((j : Int) < (L.length : Int)) = false ∨ (decide ((j : Int) < (L.length : Int)) = true ∧ decide ((j : Int) < 30) = false) := by
      by_cases c : j < L.length
      · exact .inr ⟨decide_eq_true (by omega), decide_eq_false (by omega)⟩
      · exact .inl (decide_eq_false (by omega))
    suffices fin : m_fieldfarelaw7_PoolWholetttttt K (.int .i64 N) (.ptr (some (p, 0))) G by
      rcases st with d1 | ⟨d1, d2⟩
      · rw [boolIs_bool, beq_tt, d1, guardP_false, guardP_false, w_pick_b, outP_val, if_neg Bool.false_ne_true, condP_false]
        exact fin
      · rw [boolIs_bool, beq_tt, d1, guardP_true, outP_val, guardP_true, w_lss, outP_val, d2, w_pick_b, outP_val, if_pos rfl, condP_false]
        exact fin
    clear hrec st
    unfold m_fieldfarelaw7_PoolWholetttttt
    obtain ⟨fl, hfl, pl⟩ := hp.ex
    have xG := hp.ext
    have nG := xG.next
    have lowG := pl.low
    rw [w_make_map, outP_val]
    have pl1 := pl.mono (H' := G.new (.mp (ents []) 0)) ((Ext.refl [] _).new _) (by simp)
    have x1 : Ext [] G (G.new (.mp (ents []) 0)) := (Ext.refl _ _).new _
    have gm1 := get_new_same G (.mp (ents []) 0)
    have n1 : (G.new (.mp (ents []) 0)).next = G.next + 1 := next_new _ _
    generalize G.new (.mp (ents []) 0) = G1 at *
    obtain ⟨m2, hm2⟩ : ∃ m2, m2 = G.next := ⟨_, rfl⟩
    rw [← hm2] at n1 gm1 nG ⊢
    have hm2fl : m2 ∉ fl := fun q => by have := lowG _ q; omega
    unfold m_fieldfarelaw7_PoolWholettttttt
    rw [outP_enter]
    obtain ⟨m, Bf, sf, M, bl, plm⟩ := id pl1
    refine owners_wp plm (fun k hk => small_in (plm.key k hk)) (by have := small_len plm.nd plm.key; rw [List.length_map] at this; omega) _ fun G2 sl BL x2 hBL isl => ?_
    generalize hl : leftI (fun k => decide ((S.of k).length = 0)) (sortZ (keysM M)) = l at *
    obtain ⟨l1, l2, l3⟩ := owners_all plm hl.symm
    have lsm : l.length ≤ 9 := small_len (up_nodup l1) fun k hk => by
      rw [← hl] at hk
      exact plm.key k (mem_sortZ.1 (List.mem_filter.1 hk).1)
    obtain ⟨cnt1, cnt2⟩ := whole_count hi (up_nodup l1) l2
    have pl2 := pl1.mono x2 (by simp)
    have gm2 : G2.get m2 = some (.mp (ents []) 0) := x2.get (by omega) (by simp) gm1
    have n2 := x2.next
    unfold m_fieldfarelaw7_PoolWholetttttttth m_fieldfarelaw7_PoolWholetttttttthtb
    rw [isl.len ints_sl, outP_val]
    refine loopP_rule (I := fun t G' => ∃ (j : Nat) (Ms : Me) (clk : Nat), t = (.int .i64 N, .ptr (some (p, 0)), .map (some m2), sl, .int .i64 l.length, .int .i64 j) ∧ j ≤ l.length ∧ Ext [m2] G2 G' ∧ G'.get m2 = some (.mp (ents Ms) clk) ∧ keysM Ms = (l.take j).flatMap S.of) (μ := fun t _ => match t.2.2.2.2.2 with | .int _ z => l.length - z.toNat | _ => 0) ?_
      ⟨0, [], 0, rfl, Nat.zero_le _, Ext.refl _ _, gm2, by simp⟩
    rintro t G' ⟨j, Ms, clk, rfl, hj, x3, gm3, ks⟩ rec hrec
    have isl3 : Is .i64 G' BL sl l := Sl.mono isl x3 (by simp; omega)
    have pl3 : Pl smallQ G' fl p S := pl2.mono x3 (by simp; exact hm2fl)
    have n3 := x3.next
    unfold m_fieldfarelaw7_PoolWholetttttttthtbl m_fieldfarelaw7_PoolWholetttttttthtblt
    rw [w_lss, outP_val]
    by_cases cj : j < l.length
    · rw [decide_eq_true (by omega), condP_true]
      unfold m_fieldfarelaw7_PoolWholetttttttthtbltthb m_fieldfarelaw7_PoolWholetttttttthtbltthbt
      obtain ⟨oj, e1, e2, e3⟩ := isl3.at cj
      rw [e1, outP_val, w_load_c, e3, vO_some, outP_val, outP_enter]
      refine via_wp (by kernel_rfl) ?_
      have plx3 : Plx smallQ H G' p S := ⟨((xG.trans (x1.trans x2)).mono (m' := [m2]) (by simp)).trans x3 |>.mono fun q hq hlt => by simp at hq; omega, fl, hfl, pl3⟩
      refine of_plx plx3 hi (by omega) l[j] _ fun G4 so Bo x4 plx4 hBo o4 => ?_
      have is4 : Is .i64 G4 Bo so (S.of l[j]) := o4.is
      have isl4 : Is .i64 G4 BL sl l := Sl.mono isl3 x4 (by simp)
      have ne : S.of l[j] ≠ [] := l3 _ (List.getElem_mem cj)
      have lo := hi.lenO l[j]
      have up := hi.upO l[j]
      have inO := hi.inO l[j]
      have hne : (S.of l[j]).length ≠ 0 := fun q => ne (List.eq_nil_of_length_eq_zero q)
      unfold m_fieldfarelaw7_PoolWholetttttttthtbltthbtt
      have go3 : m_fieldfarelaw7_PoolWholetttttttthtbltthbttt K rec (.int .i64 N) (.ptr (some (p, 0))) (.map (some m2)) sl so (.int .i64 l.length) (.int .i64 j) G4 := by
        unfold m_fieldfarelaw7_PoolWholetttttttthtbltthbttt
        rw [is4.len ints_sl, outP_val]
        have gm4 : G4.get m2 = some (.mp (ents Ms) clk) := x4.get (by omega) (by simp) gm3
        have dj : (l.take (j + 1)).flatMap S.of = (l.take j).flatMap S.of ++ S.of l[j] := by
          rw [List.take_succ_eq_append_getElem cj, List.flatMap_append]; simp
        have ndj : ((l.take (j + 1)).flatMap S.of).Nodup := by
          have : (l.flatMap S.of) = (l.take (j + 1)).flatMap S.of ++ (l.drop (j + 1)).flatMap S.of := by rw [← List.flatMap_append, List.take_append_drop]
          rw [this] at cnt1
          exact (List.nodup_append.1 cnt1).1
        rw [dj] at ndj
        unfold m_fieldfarelaw7_PoolWholetttttttthtbltthbttttb
        refine loopP_rule (I := fun t G5 => ∃ (i : Nat) (Mi : Me) (clk : Nat), t = (.int .i64 N, .ptr (some (p, 0)), .map (some m2), sl, so, .int .i64 l.length, .int .i64 j, .int .i64 (S.of l[j]).length, .int .i64 i) ∧ i ≤ (S.of l[j]).length ∧ Ext [m2] G4 G5 ∧ G5.get m2 = some (.mp (ents Mi) clk) ∧ keysM Mi = (l.take j).flatMap S.of ++ (S.of l[j]).take i) (μ := fun t _ => match t.2.2.2.2.2.2.2.2 with | .int _ z => (S.of l[j]).length - z.toNat | _ => 0) ?_
          ⟨0, Ms, clk, rfl, Nat.zero_le _, Ext.refl _ _, gm4, by rw [ks]; simp⟩
        rintro t G5 ⟨i, Mi, clki, rfl, hii, x5, gm5, ki⟩ rec2 hrec2
        unfold m_fieldfarelaw7_PoolWholetttttttthtbltthbttttbl
        have is5 : Is .i64 G5 Bo so (S.of l[j]) := Sl.mono is4 x5 (by simp; omega)
        have n5 := x5.next
        rw [w_lss, outP_val]
        by_cases ci : i < (S.of l[j]).length
        · rw [decide_eq_true (by omega), condP_true]
          obtain ⟨oi, r1, r2, r3⟩ := is5.at ci
          have inx := inO _ (List.getElem_mem ci)
          have hx : (S.of l[j])[i] ∉ keysM Mi := by
            rw [ki]
            intro q
            rcases List.mem_append.1 q with q | q
            · exact (List.nodup_append.1 ndj).2.2 _ q _ (List.getElem_mem ci) rfl
            · obtain ⟨i', hi', e'⟩ := List.mem_take_iff_getElem.1 q
              have := (List.pairwise_iff_getElem.1 up) i' i (by omega) ci (by omega)
              omega
          have hlk : lookM (.bool false) Mi (S.of l[j])[i] = .bool false := lookM_out hx
          have dz : decide ((S.of l[j])[i] < (0 : Int)) = false := decide_eq_false (by omega)
          have dn : decide ((N : Int) ≤ (S.of l[j])[i]) = false := decide_eq_false (by omega)
          have lk5 : ∀ x : Int, w_lookup PP 3 4 false G5 (.map (some m2)) (.int .i64 x) = some (.val (lookM (.bool false) Mi x) G5) := fun x => w_look int_un bool_zero gm5 x
          obtain ⟨clk', hset⟩ := w_set (et := 4) int_un gm5 (S.of l[j])[i] (.bool true)
          have fin2 : rec2 (.int .i64 N, .ptr (some (p, 0)), .map (some m2), sl, so, .int .i64 l.length, .int .i64 j, .int .i64 (S.of l[j]).length, .int .i64 ((i : Int) + 1)) (G5.put m2 (some (.mp (ents (setM Mi (S.of l[j])[i] (.bool true) clki)) clk'))) := by
            refine hrec2 _ _ ⟨i + 1, setM Mi (S.of l[j])[i] (.bool true) clki, clk', by rfl, by omega, x5.put (.inr (by simp)) _, get_put_same _ _, ?_⟩ ?_
            · rw [setM_keys_out _ _ hx, ki, List.append_assoc, List.take_succ_eq_append_getElem ci]
            · show (S.of l[j]).length - ((i : Int) + 1).toNat < (S.of l[j]).length - (i : Int).toNat
              omega
          have wi : ∀ G : AH, w_int .add G (.int .i64 i) (.int .i64 1) = some (.val (.int .i64 ((i : Int) + 1)) G) := fun G => w_add_in (by omega) (by omega)
          by_cases i0 : i = 0
          · have d0 : decide ((0 : Int) < (i : Int)) = false := decide_eq_false (by omega)
            repeat (first | rw [outP_val] | rw [guardP_true] | rw [guardP_false] | rw [condP_true] | rw [r1] | rw [r3] | rw [lk5] | rw [hlk] | rw [dz] | rw [dn] | rw [d0] | rw [hset] | rw [wi] | rw [condP_false] | rw [boolIs_bool] | rw [boolIs_undef] | rw [beq_tt] | rw [beq_ff] | rw [Bool.not_true] | rw [Bool.not_false] | rw [outP_skip] | rw [w_pick_b] | rw [if_pos rfl] | rw [if_neg Bool.false_ne_true] | rw [w_fieldAddr_ptr] | rw [w_nil_ptr] | rw [Nat.zero_add] | rw [w_load_c] | rw [w_load_n] | rw [vO_some] | rw [w_store_c] | rw [w_not] | rw [w_lss] | rw [w_leq] | rw [w_gtr] | rw [w_geq] | rw [w_eql] | rw [w_neq] | rw [w_cint] | rw [w_min2_int] | rw [w_max2_int] | rw [w_add_in (by omega) (by omega)] | rw [w_sub_in (by omega) (by omega)] | rw [w_mul_in (by omega) (by omega)] | rw [outP_enter])
            exact fin2
          · obtain ⟨oi', s1, s2, s3⟩ := is5.at (j := i - 1) (by omega)
            have ei : ((i - 1 : Nat) : Int) = (i : Int) - 1 := by omega
            rw [ei] at s1
            have d0 : decide ((0 : Int) < (i : Int)) = true := decide_eq_true (by omega)
            have ups := (List.pairwise_iff_getElem.1 up) (i - 1) i (by omega) ci (by omega)
            have dp : decide ((S.of l[j])[i] ≤ (S.of l[j])[i - 1]) = false := decide_eq_false (by omega)
            have wm : ∀ G : AH, w_int .sub G (.int .i64 i) (.int .i64 1) = some (.val (.int .i64 ((i : Int) - 1)) G) := fun G => w_sub_in (by omega) (by omega)
            repeat (first | rw [outP_val] | rw [guardP_true] | rw [guardP_false] | rw [condP_true] | rw [r1] | rw [r3] | rw [s1] | rw [s3] | rw [lk5] | rw [hlk] | rw [dz] | rw [dn] | rw [d0] | rw [dp] | rw [hset] | rw [wi] | rw [wm] | rw [condP_false] | rw [boolIs_bool] | rw [boolIs_undef] | rw [beq_tt] | rw [beq_ff] | rw [Bool.not_true] | rw [Bool.not_false] | rw [outP_skip] | rw [w_pick_b] | rw [if_pos rfl] | rw [if_neg Bool.false_ne_true] | rw [w_fieldAddr_ptr] | rw [w_nil_ptr] | rw [Nat.zero_add] | rw [w_load_c] | rw [w_load_n] | rw [vO_some] | rw [w_store_c] | rw [w_not] | rw [w_lss] | rw [w_leq] | rw [w_gtr] | rw [w_geq] | rw [w_eql] | rw [w_neq] | rw [w_cint] | rw [w_min2_int] | rw [w_max2_int] | rw [w_add_in (by omega) (by omega)] | rw [w_sub_in (by omega) (by omega)] | rw [w_mul_in (by omega) (by omega)] | rw [outP_enter])
            exact fin2
        · rw [decide_eq_false (by omega), condP_false, w_add_in (by omega) (by omega), outP_val]
          obtain rfl : i = (S.of l[j]).length := by omega
          refine hrec _ _ ⟨j + 1, Mi, clki, by rfl, by omega, ?_, gm5, by rw [ki, List.take_length, dj]⟩ ?_
          rotate_left
          · show l.length - ((j : Int) + 1).toNat < l.length - (j : Int).toNat
            omega
          exact (x3.trans (x4.mono (by simp))).trans x5
      have dl0 : decide (((S.of l[j]).length : Int) = 0) = false := decide_eq_false (by omega)
      have ln4 := is4.len ints_sl
      by_cases j0 : j = 0
      · have d0 : decide ((0 : Int) < (j : Int)) = false := decide_eq_false (by omega)
        repeat (first | rw [outP_val] | rw [guardP_true] | rw [guardP_false] | rw [condP_true] | rw [d0] | rw [ln4] | rw [dl0] | rw [condP_false] | rw [boolIs_bool] | rw [boolIs_undef] | rw [beq_tt] | rw [beq_ff] | rw [Bool.not_true] | rw [Bool.not_false] | rw [outP_skip] | rw [w_pick_b] | rw [if_pos rfl] | rw [if_neg Bool.false_ne_true] | rw [w_fieldAddr_ptr] | rw [w_nil_ptr] | rw [Nat.zero_add] | rw [w_load_c] | rw [w_load_n] | rw [vO_some] | rw [w_store_c] | rw [w_not] | rw [w_lss] | rw [w_leq] | rw [w_gtr] | rw [w_geq] | rw [w_eql] | rw [w_neq] | rw [w_cint] | rw [w_min2_int] | rw [w_max2_int] | rw [w_add_in (by omega) (by omega)] | rw [w_sub_in (by omega) (by omega)] | rw [w_mul_in (by omega) (by omega)] | rw [outP_enter])
        exact go3
      · obtain ⟨oj0, q1, q2, q3⟩ := isl4.at cj
        obtain ⟨oj', s1, s2, s3⟩ := isl4.at (j := j - 1) (by omega)
        have ej : ((j - 1 : Nat) : Int) = (j : Int) - 1 := by omega
        rw [ej] at s1
        have d0 : decide ((0 : Int) < (j : Int)) = true := decide_eq_true (by omega)
        have ups := (List.pairwise_iff_getElem.1 l1) (j - 1) j (by omega) cj (by omega)
        have dp : decide (l[j] ≤ l[j - 1]) = false := decide_eq_false (by omega)
        have wm : ∀ G : AH, w_int .sub G (.int .i64 j) (.int .i64 1) = some (.val (.int .i64 ((j : Int) - 1)) G) := fun G => w_sub_in (by omega) (by omega)
        repeat (first | rw [outP_val] | rw [guardP_true] | rw [guardP_false] | rw [condP_true] | rw [d0] | rw [wm] | rw [q1] | rw [q3] | rw [s1] | rw [s3] | rw [dp] | rw [ln4] | rw [dl0] | rw [condP_false] | rw [boolIs_bool] | rw [boolIs_undef] | rw [beq_tt] | rw [beq_ff] | rw [Bool.not_true] | rw [Bool.not_false] | rw [outP_skip] | rw [w_pick_b] | rw [if_pos rfl] | rw [if_neg Bool.false_ne_true] | rw [w_fieldAddr_ptr] | rw [w_nil_ptr] | rw [Nat.zero_add] | rw [w_load_c] | rw [w_load_n] | rw [vO_some] | rw [w_store_c] | rw [w_not] | rw [w_lss] | rw [w_leq] | rw [w_gtr] | rw [w_geq] | rw [w_eql] | rw [w_neq] | rw [w_cint] | rw [w_min2_int] | rw [w_max2_int] | rw [w_add_in (by omega) (by omega)] | rw [w_sub_in (by omega) (by omega)] | rw [w_mul_in (by omega) (by omega)] | rw [outP_enter])
        exact go3
    · rw [decide_eq_false (by omega), condP_false]
      obtain rfl : j = l.length := by omega
      rw [List.take_length] at ks
      rw [w_len_map seen_map gm3, outP_val, outP_enter]
      refine via_wp (by kernel_rfl) ?_
      refine poolFree_wp pl3 _ ?_
      have e : (Ms.length : Int) + (S.free.length : Int) = N := by
        have := congrArg List.length ks
        rw [List.length_map] at this
        omega
      rw [w_add_in (by omega) (by omega), outP_val, e, w_eql, outP_val, decide_eq_true rfl]
      refine hK _ ?_
      exact ((xG.trans (x1.trans x2)).mono (m' := [m2]) (by simp)).trans x3 |>.mono fun q hq hlt => by simp at hq; omega
end
end Go.Ab
