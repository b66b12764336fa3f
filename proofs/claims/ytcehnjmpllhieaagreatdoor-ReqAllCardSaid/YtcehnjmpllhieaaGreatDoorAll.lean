/- fieldfarelaw23.ReqAll: what it does, at any input. -/
import Derived.Test.YtcehnjmpllhieaaGreatDoorUnl
import Derived.Test.YtcehnjmpllhieaaGreatDoorReqH
import Derived.Test.YtcehnjmpllhieaaGreatDoorGetI
import Derived.Test.YtcehnjmpllhieaaGreatDoorR3
namespace Go.Ab
noncomputable section
open Go.Proofs
set_option maxRecDepth 10000
variable {H H' : AH}

theorem w_str_ne (a b : List UInt8) : w_str .neq H (.str a) (.str b) = some (.val (.bool (!decide (a = b))) H) := by
  have h : strEq a b = decide (a = b) := by rw [Bool.eq_iff_iff, strEq_eq, beq_iff_eq, decide_eq_true_iff]
  show vO H (some (.bool (!strEq a b))) = _
  rw [h]; rfl
theorem bytes_el : elT PP 27 = some (1, [.slice none 0 0 true]) := by kernel_rfl
theorem bs_bytes1 {s1 : AV} (h1 : SlK s1) : w_buildSlice PP 27 1 H [(0, s1)] none = some (.val (.slice (some (H.next, 0)) 1 1 true) (H.new (.cells 27 [s1]))) := by
  have q1 : Nat.ble (1 * 1) 16777216 = true := rfl
  have q2 : fillA (fun i => some (i * 1, 1)) [(0, s1)] (reps 1 [AV.slice none 0 0 true]) = some [s1] := by
    rcases h1 with rfl | ⟨_, _, rfl⟩ | ⟨_, _, _, _, _, rfl⟩ <;> rfl
  have q3 : allB (fun x : Nat × AV => allB AV.one x.2.parts) [(0, s1)] = true := by
    rcases h1 with rfl | ⟨_, _, rfl⟩ | ⟨_, _, _, _, _, rfl⟩ <;> rfl
  simp only [w_buildSlice, oBuildSlice, bytes_el, q1, q2, q3, br_true, val_mk, ob_some, newSlice, newTo_none_eq]
theorem bs_bytes2 {s1 s2 : AV} (h1 : SlK s1) (h2 : SlK s2) (b : Nat) : w_buildSlice PP 27 2 H [(0, s1), (1, s2)] (some b) = some (.val (.slice (some (b, 0)) 2 2 true) (H.put b (some (.cells 27 [s1, s2])))) := by
  have q1 : Nat.ble (2 * 1) 16777216 = true := rfl
  have q2 : fillA (fun i => some (i * 1, 1)) [(0, s1), (1, s2)] (reps 2 [AV.slice none 0 0 true]) = some [s1, s2] := by
    rcases h1 with rfl | ⟨_, _, rfl⟩ | ⟨_, _, _, _, _, rfl⟩ <;> rcases h2 with rfl | ⟨_, _, rfl⟩ | ⟨_, _, _, _, _, rfl⟩ <;> rfl
  have q3 : allB (fun x : Nat × AV => allB AV.one x.2.parts) [(0, s1), (1, s2)] = true := by
    rcases h1 with rfl | ⟨_, _, rfl⟩ | ⟨_, _, _, _, _, rfl⟩ <;> rcases h2 with rfl | ⟨_, _, rfl⟩ | ⟨_, _, _, _, _, rfl⟩ <;> rfl
  simp only [w_buildSlice, oBuildSlice, bytes_el, q1, q2, q3, br_true, val_mk, ob_some, newSlice, newTo_some_eq]
theorem flat_ones : ∀ l : List AV, l = (l.map fun s => [s]).flatten
  | [] => rfl
  | x :: l => by
    have ih := flat_ones l
    show x :: l = x :: (l.map fun s => [s]).flatten
    rw [← ih]
theorem own_slices {b : Nat} {t : TypeId} {l : List AV} (g : H.get b = some (.cells t l)) (hlt : b < H.next) (hl : ∀ s ∈ l, SlK s) : Own H t 1 b (.slice (some (b, 0)) l.length l.length true) (l.map fun s => [s]) := by
  refine ⟨.inr ⟨0, l.length, true, l, by simp, g, by simp, by omega, fun q => (by cases q), ?_, hlt⟩, ?_, ?_, ?_⟩
  · rw [List.drop_zero, List.length_map, Nat.mul_one, List.take_length]
    exact flat_ones l
  · intro x hx; obtain ⟨s, _, rfl⟩ := List.mem_map.1 hx; rfl
  · intro x hx; obtain ⟨s, hs, rfl⟩ := List.mem_map.1 hx
    have := (slk_facts (hl s hs)).2.2
    show (s.known && true) = true
    rw [this]; rfl
  · intro x hx; obtain ⟨s, hs, rfl⟩ := List.mem_map.1 hx
    have := (slk_facts (hl s hs)).1
    show (s.one && true) = true
    rw [this]; rfl
/-- One that is in the list: any text; from the second one on it is no operation's. -/
def OneOf (H : AH) (j : Nat) (x : AV) : Prop := ∃ b T, Is .u8 H b x T ∧ By T ∧ T.length ≤ 10000 ∧ (0 < j → ¬ (T.length ≤ 400 ∧ ∃ o, pOp T = some (o, [])))
theorem OneOf.mono {j : Nat} {x : AV} (h : OneOf H j x) (e : Ext [] H H') : OneOf H' j x := by
  obtain ⟨b, T, h1, h2⟩ := h
  exact ⟨b, T, Sl.mono h1 e (by simp), h2⟩
theorem Laid2.mono (h : Laid2 H) (hlt : 1 < H.next) (x : Ext [] H H') : Laid2 H' := ⟨by rw [x.same 0 (by omega) (by simp)]; exact h.h0, by rw [x.same 1 hlt (by simp)]; exact h.h1⟩
theorem getErr_in (T : List Int) : getErr T ∈ codesN := by
  unfold getErr
  split
  · simp
  · split
    · simp
    · split <;> simp
theorem zero_eq : eqV OpV.zero OpV.zero = true := (eqV_iff _ _).2 rfl
set_option maxHeartbeats 1000000 in
theorem allLoop_wp {b : Nat} {s : AV} {X : List AV} (h : Sl H 1 b s (X.map fun x => [x])) (hX : ∀ (j : Nat) (hj : j < X.length), OneOf H j X[j]) (hs : ∀ x ∈ X, SlK x) (hn : X.length ≤ 10) (hl : Laid2 H) (hlt : 1 < H.next) (K : AV → AH → Prop) (hK : ∀ H', Ext [] H H' → K (.bool true) H') :
    m_fieldfarelaw23_ReqAlltttttttth K s H := by
  unfold m_fieldfarelaw23_ReqAlltttttttth
  have ln := h.len (P := PP) (t := 36) (e := 27) (by kernel_rfl)
  rw [List.length_map] at ln
  rw [ln, outP_val]
  unfold m_fieldfarelaw23_ReqAlltttttttthtb
  refine loopP_rule (I := fun t G => ∃ j : Nat, t = (s, .int .i64 X.length, .int .i64 j) ∧ j ≤ X.length ∧ Ext [] H G) (μ := fun t _ => match t.2.2 with | .int _ z => X.length - z.toNat | _ => 0) ?_ ⟨0, rfl, Nat.zero_le _, Ext.refl _ _⟩
  rintro t G ⟨j, rfl, hj, x⟩ rec hrec
  unfold m_fieldfarelaw23_ReqAlltttttttthtbl
  rw [w_lss, outP_val]
  unfold m_fieldfarelaw23_ReqAlltttttttthtblt
  by_cases cj : j < X.length
  case neg =>
    rw [decide_eq_false (by omega), condP_false]
    exact hK _ x
  rw [decide_eq_true (by omega), condP_true]
  have hj' : j < (X.map fun x => [x]).length := by simpa using cj
  obtain ⟨q, a1, a2, a3⟩ := (h.mono x (by simp)).at hj' .i64
  have e1 : (X.map fun x => [x])[j] = [X[j]] := by simp
  rw [e1] at a3
  obtain ⟨k1, k2, k3⟩ := slk_facts (hs _ (List.getElem_mem cj))
  have a4 : ldV (G.get b) q = some X[j] := ldV_of (a3 0 _ rfl) k3 k1
  obtain ⟨bx, T, is, hby, hT, hno⟩ := (hX j cj).mono x
  have hxk := hs _ (List.getElem_mem cj)
  have hl' := hl.mono hlt x
  have n0 := x.next
  have next : ∀ {G' : AH}, Ext [] G G' → outP C26 G' (w_int .add G' (.int .i64 j) (.int .i64 1)) fun v8 H8 => rec (s, .int .i64 X.length, v8) H8 := fun e => by
    rw [w_add_in (by omega) (by omega), outP_val]
    refine hrec _ _ ⟨j + 1, by rfl, by omega, x.trans e⟩ ?_
    show X.length - ((j : Int) + 1).toNat < X.length - (j : Int).toNat
    omega
  generalize X[j] = xj at *
  unfold m_fieldfarelaw23_ReqAlltttttttthtbltthb
  rw [a1, outP_val, w_load_c, a4, vO_some, outP_val]
  unfold m_fieldfarelaw23_ReqAlltttttttthtbltthbt
  rw [outP_enter]
  refine via_wp (by kernel_rfl) ?_
  refine reqGet_wp is hby hT _ (fun no G2 e x2 he => ?_) fun p hp4 hp G2 v' b' x2 hv' => ?_
  · rw [ext0, outP_val, ext1, outP_val, op_alloc, outP_val, w_store_c, get_new_same, st11 _ _ (op_len _ _) (op_len _ _) (op_one _ rfl), outP_skip]
    have x3 : Ext [] G2 ((G2.new (.cells 26 (opC OpV.zero (.slice none 0 0 true)))).put G2.next (some (.cells 26 (opC OpV.zero (.slice none 0 0 true))))) := ((Ext.refl _ _).new _).put (.inl (Nat.le_refl _)) _
    have g3 := get_put_same (H := G2.new (.cells 26 (opC OpV.zero (.slice none 0 0 true)))) G2.next (some (.cells 26 (opC OpV.zero (.slice none 0 0 true))))
    have n3 : G2.next < ((G2.new (.cells 26 (opC OpV.zero (.slice none 0 0 true)))).put G2.next (some (.cells 26 (opC OpV.zero (.slice none 0 0 true))))).next := by rw [AH.next_put, next_new]; omega
    generalize (G2.new (.cells 26 (opC OpV.zero (.slice none 0 0 true)))).put G2.next (some (.cells 26 (opC OpV.zero (.slice none 0 0 true)))) = G3 at *
    unfold m_fieldfarelaw23_ReqAlltttttttthtbltthbtt
    rw [err_eql he, outP_val, condP_false]
    unfold m_fieldfarelaw23_ReqAlltttttttthtbltthbttt
    rw [outP_enter]
    refine via_wp (by kernel_rfl) ?_
    refine getInt_wp (Sl.mono is (x2.trans x3) (by simp)) hby (by omega) _ fun G4 x4 => ?_
    rw [ext0, outP_val, ext1, outP_val]
    unfold m_fieldfarelaw23_ReqAlltttttttthtbltthbtttt
    have x23 := (x2.trans x3).trans x4
    have fin : ∀ n : Int, n = getErr T → m_fieldfarelaw23_ReqAlltttttttthtbltthbtttttt K rec (.ptr (some (G2.next, 0))) e (.int .i64 n) s (.int .i64 X.length) (.int .i64 j) G4 := by
      intro n hn
      unfold m_fieldfarelaw23_ReqAlltttttttthtbltthbtttttt
      rw [outP_enter]
      refine errCode_wp (he.mono (x3.trans x4)) (getErr_in T) (hl'.mono (by omega) x23) _ ?_
      have d : (!decide (getErr T = n)) = false := by rw [decide_eq_true hn.symm]; rfl
      have g4 : G4.get G2.next = _ := x4.get n3 (by simp) g3
      have l11 := ld11 26 (op_len OpV.zero (.slice none 0 0 true)) (op_known OpV.zero rfl)
      rw [w_neq, outP_val, d]
      repeat (first | rw [outP_val] | rw [guardP_true] | rw [g4] | rw [l11] | rw [op_build0] | rw [boolIs_bool] | rw [beq_ff] | rw [Bool.not_false] | rw [w_load_n] | rw [vO_some])
      rw [outP_enter]
      refine via_wp (by kernel_rfl) ?_
      refine sameOp_wp OpV.zero OpV.zero (vecF_nil _ 0) (vecF_nil _ 0) _ fun G5 x5 => ?_
      rw [zero_eq]
      repeat (first | rw [outP_val] | rw [guardP_true] | rw [condP_false] | rw [Bool.not_true] | rw [w_pick_b] | rw [if_neg Bool.false_ne_true] | rw [w_not])
      exact next (x23.trans x5)
    unfold m_fieldfarelaw23_ReqAlltttttttthtbltthbttttt
    rw [Is.len (Sl.mono is x23 (by simp)) u8_sl, outP_val, w_gtr, outP_val]
    unfold getErr at fin
    by_cases c4 : 400 < T.length
    · rw [decide_eq_true (by omega), condP_true]
      exact fin 11 (by rw [if_pos c4])
    rw [if_neg c4] at fin
    rw [decide_eq_false (by omega), condP_false]
    cases hd : decB T with
    | none =>
      rw [hd] at fin
      rw [getR_none hd]
      have d : decide ((0 : Int) < (0 : Int)) = false := rfl
      repeat (first | rw [outP_val] | rw [guardP_false] | rw [d] | rw [condP_false] | rw [boolIs_bool] | rw [boolIs_undef] | rw [beq_tt] | rw [w_pick_b] | rw [if_neg Bool.false_ne_true] | rw [w_gtr])
      exact fin 1 rfl
    | some pr =>
      obtain ⟨n, R⟩ := pr
      rw [hd] at fin
      obtain ⟨r1, r2⟩ := getR_some hd
      have d := decide_eq_true r2
      rw [r1]
      by_cases c1 : n < 1
      · have d1 := decide_eq_true c1
        repeat (first | rw [outP_val] | rw [guardP_true] | rw [guardP_false] | rw [condP_true] | rw [d] | rw [d1] | rw [boolIs_bool] | rw [beq_tt] | rw [beq_ff] | rw [Bool.not_true] | rw [w_pick_b] | rw [if_pos rfl] | rw [w_lss] | rw [w_gtr])
        exact fin 12 (by show (12 : Int) = if n < 1 ∨ 15 < n then 12 else 1; rw [if_pos (.inl c1)])
      have d1 := decide_eq_false c1
      by_cases c2 : 15 < n
      · have d2 := decide_eq_true c2
        repeat (first | rw [outP_val] | rw [guardP_true] | rw [condP_true] | rw [d] | rw [d1] | rw [d2] | rw [boolIs_bool] | rw [beq_tt] | rw [beq_ff] | rw [Bool.not_false] | rw [w_pick_b] | rw [if_pos rfl] | rw [if_neg Bool.false_ne_true] | rw [w_lss] | rw [w_gtr])
        exact fin 12 (by show (12 : Int) = if n < 1 ∨ 15 < n then 12 else 1; rw [if_pos (.inr c2)])
      · have d2 := decide_eq_false c2
        repeat (first | rw [outP_val] | rw [guardP_true] | rw [d] | rw [d1] | rw [d2] | rw [condP_false] | rw [boolIs_bool] | rw [beq_tt] | rw [beq_ff] | rw [Bool.not_false] | rw [w_pick_b] | rw [if_pos rfl] | rw [if_neg Bool.false_ne_true] | rw [w_lss] | rw [w_gtr])
        exact fin 1 (by show (1 : Int) = if n < 1 ∨ 15 < n then 12 else 1; rw [if_neg (by omega)])
  · obtain ⟨eT, mp, wp⟩ := pOp_some hby hp
    rw [List.append_nil] at eT
    have j0 : j = 0 := by
      rcases Nat.eq_zero_or_pos j with q | q
      · exact q
      · exact absurd ⟨hp4, p, hp⟩ (hno q)
    obtain ⟨f1', f2', f3'⟩ := slk_facts hv'.slk
    rw [ext0, outP_val, ext1, outP_val, op_alloc, outP_val, w_store_c, get_new_same, st11 _ _ (op_len _ _) (op_len _ _) (op_one _ f1'), outP_skip]
    have x3 : Ext [] G2 ((G2.new (.cells 26 (opC OpV.zero (.slice none 0 0 true)))).put G2.next (some (.cells 26 (opC p v')))) := ((Ext.refl _ _).new _).put (.inl (Nat.le_refl _)) _
    have g3 := get_put_same (H := G2.new (.cells 26 (opC OpV.zero (.slice none 0 0 true)))) G2.next (some (.cells 26 (opC p v')))
    have n3 : G2.next < ((G2.new (.cells 26 (opC OpV.zero (.slice none 0 0 true)))).put G2.next (some (.cells 26 (opC p v')))).next := by rw [AH.next_put, next_new]; omega
    generalize (G2.new (.cells 26 (opC OpV.zero (.slice none 0 0 true)))).put G2.next (some (.cells 26 (opC p v'))) = G3 at *
    unfold m_fieldfarelaw23_ReqAlltttttttthtbltthbtt
    rw [nil_eql, outP_val, condP_true]
    have d0 : decide ((0 : Int) < (j : Int)) = false := decide_eq_false (by omega)
    have l11 := ld11 26 (op_len p v') (op_known p f3')
    have t1 : w_conv .text G3 xj none = _ := conv_text (Sl.mono is (x2.trans x3) (by simp) : Is .u8 G3 bx xj T)
    repeat (first | rw [outP_val] | rw [guardP_true] | rw [d0] | rw [g3] | rw [l11] | rw [t1] | rw [boolIs_bool] | rw [beq_ff] | rw [Bool.not_false] | rw [w_load_n] | rw [vO_some] | rw [w_gtr])
    rw [outP_enter]
    refine via_wp (by kernel_rfl) ?_
    refine rPutOp_wp p (hv'.mono x3) mp wp _ fun G4 s4 B4 x4 hB4 o4 => ?_
    have t2 : w_conv .text G4 xj none = _ := conv_text (Sl.mono is ((x2.trans x3).trans x4) (by simp) : Is .u8 G4 bx xj T)
    have t3 := conv_text o4.is
    have g4 : G4.get G2.next = _ := x4.get n3 (by simp) g3
    have dn : (!decide (txt (opText p) = txt T)) = false := by rw [decide_eq_true (by rw [eT])]; rfl
    rw [t2, reC_val, beq_str, ckP_true]
    repeat (first | rw [outP_val] | rw [guardP_true] | rw [t3] | rw [w_str_ne] | rw [dn] | rw [g4] | rw [l11] | rw [boolIs_bool] | rw [beq_ff] | rw [Bool.not_false] | rw [w_pick_b] | rw [if_neg Bool.false_ne_true] | rw [w_load_n] | rw [vO_some])
    rw [outP_enter]
    refine via_wp (by kernel_rfl) ?_
    refine mayOp_wp p (hv'.mono (x3.trans x4)) _ fun G5 r x5 hr => ?_
    rw [hr.2 mp]
    repeat (first | rw [outP_val] | rw [guardP_true] | rw [condP_false] | rw [Bool.not_true] | rw [w_pick_b] | rw [if_neg Bool.false_ne_true] | rw [w_not])
    exact next (((x2.trans x3).trans x4).trans x5)
theorem own_ints {t : TypeId} {k : IntKind} {b : Nat} {x : Int} (g : H.get b = some (.cells t [.int k x])) (hlt : b < H.next) : Os t k H b (.slice (some (b, 0)) 1 1 true) [x] :=
  ⟨.inr ⟨0, 1, true, _, rfl, g, Nat.le_refl _, Nat.le_refl _, fun q => (by cases q), rfl, hlt⟩, by simp, by simp [AV.known], by simp [AV.one]⟩
set_option maxHeartbeats 2000000 in
theorem allList_wp {b br n0 : Nat} {v r s : AV} (o : OpV) (cut : Int) {R : List Int} {m : Bool} (h : VecF H b v o.vec) (wf : WfV o) (hr : Is .u8 H br r R) (hby : By R) (hl : Laid2 H) (hlt : 1 < H.next) (hn0 : n0 < H.next) (g0 : H.get n0 = some (.cells 26 (opC o v)))
    (hm : m = true → MayV o ∧ ∃ B, Os 5 .u8 H B s (opText o)) (K : AV → AH → Prop) (hK : ∀ H', Ext [] H H' → K (.bool true) H') :
    m_fieldfarelaw23_ReqAlltttttt K (.int .i64 cut) r (.ptr (some (n0, 0))) s (.bool m) H := by
  unfold m_fieldfarelaw23_ReqAlltttttt
  obtain ⟨f1, f2, f3⟩ := slk_facts h.slk
  have l11 := ld11 26 (op_len o v) (op_known o f3)
  rw [hr.len u8_sl, outP_val, w_min2_int, outP_val]
  obtain ⟨k, hk⟩ : ∃ k : Nat, min (R.length : Int) 500 = k := ⟨min R.length 500, by omega⟩
  rw [hk]
  obtain ⟨r', c1, c2⟩ := hr.cut k (by omega)
  rw [c1, outP_val, bs_bytes1 (Sl.slk c2), outP_val]
  have x4 : Ext [] H (H.new (.cells 27 [r'])) := (Ext.refl _ _).new _
  have g4 := get_new_same H (.cells 27 [r'])
  have n4 : (H.new (.cells 27 [r'])).next = H.next + 1 := rfl
  generalize H.new (.cells 27 [r']) = G at *
  have one : ∀ {G' : AH}, Ext [] H G' → OneOf G' 0 r' := fun e => ⟨br, R.take k, Sl.mono c2 e (by simp), fun x hx => hby x (List.mem_of_mem_take hx), by rw [List.length_take]; omega, fun q => absurd q (by omega)⟩
  have ownL : Own G 27 1 H.next (.slice (some (H.next, 0)) 1 1 true) [[r']] := own_slices (l := [r']) g4 (by omega) fun s hs => by rw [List.mem_singleton.1 hs]; exact Sl.slk c2
  unfold m_fieldfarelaw23_ReqAllttttttt
  cases m with
  | false =>
    rw [condP_false]
    refine allLoop_wp (X := [r']) ownL.sl (fun j hj => ?_) (fun s hs => by rw [List.mem_singleton.1 hs]; exact Sl.slk c2) (by simp) (hl.mono hlt x4) (by omega) K fun H' e => hK H' (x4.trans e)
    obtain rfl : j = 0 := by simp at hj; exact hj
    exact one x4
  | true =>
    obtain ⟨mv, B, os⟩ := hm rfl
    have le := opText_le mv wf
    have by0 := opText_by mv wf
    have pos : 1 ≤ (opText o).length := by unfold opText; rw [List.length_append, enc_len]; omega
    have pt := pOp_text mv wf []
    have pt0 := pOp_text mv wf [0]
    have pcut : ∀ {p x R}, By x → pOp x = some (p, []) → opText o = x ++ R → R = [] := fun hx hp e => pOp_cut mv wf hx hp e
    rw [List.append_nil] at pt
    have hBlt : B < H.next := by
      rcases Own.low os with q | q
      · exact q
      · have := List.map_eq_nil_iff.1 q
        rw [this] at pos; simp at pos
    rw [condP_true, conv_text (Own.mono os x4 (by simp)).sl, outP_val, w_load_n, x4.get hn0 (by simp) g0, l11, vO_some, outP_val, outP_enter]
    refine via_wp (by kernel_rfl) ?_
    refine rPutOp_wp o (h.mono x4) mv wf _ fun G6 s6 B6 x6 hB6 o6 => ?_
    have e6 := x4.trans x6
    rw [conv_text (Own.mono os e6 (by simp)).sl, reC_val, beq_str, ckP_true, conv_text o6.is, outP_val, w_str_ne, outP_val, show (!decide (txt (opText o) = txt (opText o))) = false by rw [decide_eq_true rfl]; rfl, condP_false, outP_enter]
    refine via_wp (by kernel_rfl) ?_
    refine reqGet_wp (Own.mono os e6 (by simp)).sl by0 (by omega) _ (fun no => absurd ⟨by omega, o, pt⟩ no) fun p _ hp G7 v' b' x7 hv' => ?_
    obtain rfl : o = p := by rw [pt] at hp; exact (Prod.mk.inj (Option.some.inj hp)).1
    obtain ⟨f1', f2', f3'⟩ := slk_facts hv'.slk
    rw [ext0, outP_val, ext1, outP_val, op_alloc, outP_val, w_store_c, get_new_same, st11 _ _ (op_len _ _) (op_len _ _) (op_one _ f1'), outP_skip, nil_neq, outP_val]
    have x8 : Ext [] G7 ((G7.new (.cells 26 (opC OpV.zero (.slice none 0 0 true)))).put G7.next (some (.cells 26 (opC o v')))) := ((Ext.refl _ _).new _).put (.inl (Nat.le_refl _)) _
    have g8 := get_put_same (H := G7.new (.cells 26 (opC OpV.zero (.slice none 0 0 true)))) G7.next (some (.cells 26 (opC o v')))
    generalize (G7.new (.cells 26 (opC OpV.zero (.slice none 0 0 true)))).put G7.next (some (.cells 26 (opC o v'))) = G8 at *
    have e8 := (e6.trans x7).trans x8
    have l11' := ld11 26 (op_len o v') (op_known o f3')
    have g8' : G8.get n0 = _ := e8.get hn0 (by simp) g0
    repeat (first | rw [outP_val] | rw [guardP_true] | rw [g8] | rw [l11'] | rw [g8'] | rw [l11] | rw [boolIs_bool] | rw [beq_ff] | rw [Bool.not_false] | rw [w_load_n] | rw [vO_some])
    rw [outP_enter]
    refine via_wp (by kernel_rfl) ?_
    refine sameOp_wp o o (hv'.mono x8) (h.mono e8) _ fun G9 x9 => ?_
    have e9 := e8.trans x9
    have n9 := e9.next
    have w9 := ((x6.trans x7).trans x8).trans x9
    have n9' : H.next + 1 ≤ G9.next := by have := w9.next; omega
    rw [(eqV_iff o o).2 rfl]
    repeat (first | rw [outP_val] | rw [guardP_true] | rw [condP_false] | rw [Bool.not_true] | rw [w_pick_b] | rw [if_neg Bool.false_ne_true] | rw [w_not])
    have ln : ∀ G : AH, w_len PP 27 G s = some (.val (.int .i64 ((opText o).length : Int)) G) := os.is.len u8_sl
    clear hp pt l11 l11' g8 g8' x8 x9 e8 hv' hm
    generalize opText o = T at *
    obtain ⟨q1, q2, q3, q4⟩ := modn cut (m := (T.length : Int)) (by omega)
    rw [ln, outP_val, w_rem _ _ _ (by omega), outP_val, ln, outP_val, w_add_in (by omega) (by omega), outP_val, ln, outP_val, w_rem _ _ _ (by omega), outP_val]
    generalize (cut.tmod T.length + T.length).tmod T.length = k' at *
    obtain ⟨kc, rfl⟩ : ∃ kc : Nat, k' = kc := ⟨k'.toNat, by omega⟩
    have hkc : kc < T.length := by omega
    obtain ⟨s', d1, d2⟩ := os.is.cut kc (by omega)
    rw [d1, outP_val]
    have m2 : Ext [] G9 (G9.more 2) := (Ext.refl _ _).more 2
    have nm : (G9.more 2).next = G9.next + 2 := by rw [next_more]
    have osM := Own.mono os (e9.trans m2) (by simp)
    obtain ⟨s2, G10, B2, a1, a2, a3, a4⟩ := Own.append (by_ := 1) (Own.nil (G9.more 2) 5 1 (G9.more 2).next) osM.sl (by omega) (by simp only [List.length_map, List.length_nil]; omega)
    have n10 := a2.next
    have hB2 : G9.next + 2 ≤ B2 := by omega
    have y1 : Ext [] G9 G10 := ((m2.mono (m' := [(G9.more 2).next]) (by simp)).trans a2).mono fun b hb hlt => by simp at hb; omega
    refine st a1 ?_
    rw [ln, reC_val, beq_int, ckP_true, ckP_true, ckP_true, bs_num_at u8_el, outP_val]
    have z0 : Nat.add G9.next 0 = G9.next := rfl
    have z1 : Nat.add G9.next 1 = G9.next + 1 := rfl
    rw [z0, z1]
    have y2 : Ext [] G9 (G10.put G9.next (some (.cells 5 [.int .u8 0]))) := y1.put (.inl (Nat.le_refl _)) _
    have o11 := Own.mono a4 ((Ext.refl [G9.next] G10).put (b := G9.next) (.inr (by simp)) (some (.cells 5 [.int .u8 0]))) (by simp; omega)
    have i11 := own_ints (t := 5) (k := .u8) (get_put_same (H := G10) G9.next (some (.cells 5 [.int .u8 0]))) (by rw [AH.next_put]; omega)
    have n11 : (G10.put G9.next (some (.cells 5 [.int .u8 0]))).next = G10.next := AH.next_put _ _ _
    generalize G10.put G9.next (some (.cells 5 [.int .u8 0])) = G11 at *
    obtain ⟨s3, G12, B3, a5, a6, a7, a8⟩ := Own.append (by_ := 1) o11 i11.is (by omega) (by simp only [List.length_append, List.length_map, List.length_nil, List.length_cons]; omega)
    have n12 := a6.next
    have hB3 : G9.next + 2 ≤ B3 := by omega
    refine st a5 ?_
    have y3 : Ext [] G9 G12 := ((y2.mono (m' := [B2]) (by simp)).trans a6).mono fun b hb hlt => by simp at hb; omega
    have os3 : Os 5 .u8 G12 B3 s3 (T ++ [0]) := by
      show Own _ _ _ _ _ _
      simpa using a8
    rw [ln, reC_val, beq_int, ckP_true, ckP_true, ckP_true, bs_bytes2 (Sl.slk d2) (Sl.slk os3.is), outP_val]
    have y4 : Ext [] G9 (G12.put (G9.next + 1) (some (.cells 27 [s', s3]))) := y3.put (.inl (by omega)) _
    have o13 := Own.mono os3 ((Ext.refl [G9.next + 1] G12).put (b := G9.next + 1) (.inr (by simp)) (some (.cells 27 [s', s3]))) (by simp; omega)
    have l13 := own_slices (l := [s', s3]) (get_put_same (H := G12) (G9.next + 1) (some (.cells 27 [s', s3]))) (by rw [AH.next_put]; omega) fun s hs => by
      simp only [List.mem_cons, List.not_mem_nil, or_false] at hs
      rcases hs with rfl | rfl
      · exact Sl.slk d2
      · exact Sl.slk os3.is
    have n13 : (G12.put (G9.next + 1) (some (.cells 27 [s', s3]))).next = G12.next := AH.next_put _ _ _
    generalize G12.put (G9.next + 1) (some (.cells 27 [s', s3])) = G13 at *
    have w13 : Ext [] G G13 := w9.trans y4
    obtain ⟨s4, G14, B4, a9, a10, a11, a12⟩ := Own.append (by_ := 24) (Own.mono ownL w13 (by simp)) l13.sl (by omega) (by simp)
    refine st a9 ?_
    have z14 : Ext [] H G14 := (((x4.trans w13).mono (m' := [H.next]) (by simp)).trans a10).mono fun b hb hlt => by simp at hb; omega
    have o14 := Own.mono o13 a10 (by simp; omega)
    have n14 := z14.next
    refine allLoop_wp (X := [r', s', s3]) a12.sl (fun j hj => ?_) (fun s hs => ?_) (by simp) (hl.mono hlt z14) (by omega) K fun H' e => hK H' (z14.trans e)
    · have hj : j < 3 := hj
      have : j = 0 ∨ j = 1 ∨ j = 2 := by omega
      rcases this with rfl | rfl | rfl
      · exact one z14
      · refine ⟨B, T.take kc, Sl.mono d2 z14 (by simp), fun x hx => by0 x (List.mem_of_mem_take hx), by rw [List.length_take]; omega, fun _ q => ?_⟩
        obtain ⟨_, p, hp⟩ := q
        have := pcut (R := T.drop kc) (fun x hx => by0 x (List.mem_of_mem_take hx)) hp (List.take_append_drop kc T).symm
        have := congrArg List.length this
        rw [List.length_drop] at this
        simp at this
        omega
      · refine ⟨B3, T ++ [0], o14.sl, fun x hx => ?_, by simp; omega, fun _ q => ?_⟩
        · rcases List.mem_append.1 hx with q | q
          · exact by0 x q
          · rw [List.mem_singleton.1 q]; exact ⟨by decide, by decide⟩
        · obtain ⟨_, p, hp⟩ := q
          rw [pt0] at hp
          cases hp
    · simp only [List.mem_cons, List.not_mem_nil, or_false] at hs
      rcases hs with rfl | rfl | rfl
      · exact Sl.slk c2
      · exact Sl.slk d2
      · exact Sl.slk os3.is
set_option maxHeartbeats 1000000 in
theorem reqAll_wp {b br : Nat} {v r : AV} (o : OpV) (cut : Int) {R : List Int} (h : VecF H b v o.vec) (wf : WfV o) (hr : Is .u8 H br r R) (hby : By R) (hl : Laid2 H) (hlt : 1 < H.next) (K : AV → AH → Prop) (hK : ∀ H', Ext [] H H' → K (.bool true) H') :
    C26.call 3 [opA o v, .int .i64 cut, r] H K := by
  refine m_fieldfarelaw23_ReqAll_ok _ _ _ _ _ ?_
  unfold m_fieldfarelaw23_ReqAll
  obtain ⟨f1, f2, f3⟩ := slk_facts h.slk
  rw [op_box o f1, outP_val]
  have x1 : Ext [] H (H.new (.cells 26 (opC o v))) := (Ext.refl _ _).new _
  have g1 := get_new_same H (.cells 26 (opC o v))
  have nx : H.next < (H.new (.cells 26 (opC o v))).next := by rw [next_new]; omega
  generalize H.new (.cells 26 (opC o v)) = G at *
  have l11 := ld11 26 (op_len o v) (op_known o f3)
  have hl' := hl.mono hlt x1
  have hlt' : 1 < G.next := by omega
  have gA : ∀ {G' : AH}, Ext [] G G' → G'.get H.next = some (.cells 26 (opC o v)) := fun e => e.get nx (by simp) g1
  have ln0 : ∀ G : AH, w_len PP 27 G (.slice none 0 0 true) = some (.val (.int .i64 0) G) := fun G => (os_nil (H := G) 5 .u8 0).is.len u8_sl G
  unfold m_fieldfarelaw23_ReqAllt
  rw [outP_enter]
  refine begun26_wp hl' _ ?_
  unfold m_fieldfarelaw23_ReqAlltt
  rw [w_not, outP_val, Bool.not_true, condP_false]
  unfold m_fieldfarelaw23_ReqAllttt
  rw [w_load_n, g1, l11, vO_some, outP_val, outP_enter]
  refine via_wp (by kernel_rfl) ?_
  refine reqPut_wp o (h.mono x1) wf _ (fun nm G2 e x2 he => ?_) fun m G2 s B x2 hB os => ?_
  · rw [ext0, outP_val, ext1, outP_val]
    unfold m_fieldfarelaw23_ReqAlltttt
    rw [w_load_n, gA x2, l11, vO_some, outP_val, outP_enter]
    refine via_wp (by kernel_rfl) ?_
    refine mayOp_wp o (h.mono (x1.trans x2)) _ fun G3 r3 x3 hr3 => ?_
    obtain rfl : r3 = false := Bool.eq_false_iff.2 fun w => nm (hr3.1 w)
    unfold m_fieldfarelaw23_ReqAllttttt
    rw [w_load_n, gA (x2.trans x3), l11, vO_some, outP_val, outP_enter]
    refine via_wp (by kernel_rfl) ?_
    refine may_wp o (h.mono (x1.trans (x2.trans x3))) _ fun G4 r4 x4 hr4 => ?_
    obtain rfl : r4 = false := Bool.eq_false_iff.2 fun w => nm (hr4.1 w)
    have b0 : (!(false == false)) = false := rfl
    have xx := (x2.trans x3).trans x4
    repeat (first | rw [outP_val] | rw [guardP_true] | rw [bool_neq] | rw [b0] | rw [err_eql he] | rw [err_neq he] | rw [boolIs_bool] | rw [beq_tt] | rw [beq_ff] | rw [Bool.not_false] | rw [w_pick_b] | rw [if_neg Bool.false_ne_true])
    rw [outP_enter]
    refine errCode_wp (he.mono (x3.trans x4)) (by simp) (hl'.mono hlt' xx) _ ?_
    have d1 : (!decide ((1 : Int) = 1)) = false := rfl
    have d0 : (!decide ((0 : Int) = 0)) = false := rfl
    repeat (first | rw [outP_val] | rw [guardP_true] | rw [d1] | rw [d0] | rw [ln0] | rw [condP_false] | rw [boolIs_bool] | rw [beq_ff] | rw [Bool.not_false] | rw [w_pick_b] | rw [if_pos rfl] | rw [if_neg Bool.false_ne_true] | rw [w_neq])
    exact allList_wp o cut (h.mono (x1.trans xx)) wf (Sl.mono hr (x1.trans xx) (by simp)) hby (hl'.mono hlt' xx) (by have := xx.next; omega) (by have := xx.next; omega) (gA xx) (fun q => by cases q) K fun H' e => hK H' ((x1.trans xx).trans e)
  · rw [ext0, outP_val, ext1, outP_val]
    unfold m_fieldfarelaw23_ReqAlltttt
    rw [w_load_n, gA x2, l11, vO_some, outP_val, outP_enter]
    refine via_wp (by kernel_rfl) ?_
    refine mayOp_wp o (h.mono (x1.trans x2)) _ fun G3 r3 x3 hr3 => ?_
    obtain rfl : r3 = true := hr3.2 m
    unfold m_fieldfarelaw23_ReqAllttttt
    rw [w_load_n, gA (x2.trans x3), l11, vO_some, outP_val, outP_enter]
    refine via_wp (by kernel_rfl) ?_
    refine may_wp o (h.mono (x1.trans (x2.trans x3))) _ fun G4 r4 x4 hr4 => ?_
    obtain rfl : r4 = true := hr4.2 m
    have b0 : (!(true == true)) = false := rfl
    have xx := (x2.trans x3).trans x4
    repeat (first | rw [outP_val] | rw [guardP_true] | rw [guardP_false] | rw [bool_neq] | rw [b0] | rw [nil_eql] | rw [nil_neq] | rw [condP_false] | rw [boolIs_bool] | rw [boolIs_undef] | rw [beq_tt] | rw [beq_ff] | rw [Bool.not_false] | rw [w_pick_b] | rw [if_neg Bool.false_ne_true])
    exact allList_wp o cut (h.mono (x1.trans xx)) wf (Sl.mono hr (x1.trans xx) (by simp)) hby (hl'.mono hlt' xx) (by have := xx.next; omega) (by have := xx.next; omega) (gA xx) (fun _ => ⟨m, B, Own.mono os (x3.trans x4) (by simp)⟩) K fun H' e => hK H' ((x1.trans xx).trans e)
end
end Go.Ab
