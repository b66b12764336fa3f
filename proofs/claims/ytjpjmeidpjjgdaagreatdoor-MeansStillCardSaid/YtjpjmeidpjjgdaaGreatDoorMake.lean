/- quant.Make: what it does, at any vectors. -/
import Derived.Test.YtjpjmeidpjjgdaaGreatDoorVecs
namespace Go.Ab
noncomputable section
open Go.Proofs
set_option maxRecDepth 10000
variable {H H' : AH}

/-- The least and the greatest of the first k, at a place (none: 0). -/
def lhS (Z : List (List Int)) (i : Nat) : Nat → Int × Int
  | 0 => (0, 0)
  | k + 1 => (min (if k = 0 then ((Z.getD k []).getD i 0) else (lhS Z i k).1) ((Z.getD k []).getD i 0), max (if k = 0 then ((Z.getD k []).getD i 0) else (lhS Z i k).2) ((Z.getD k []).getD i 0))
theorem lhS_in {Z : List (List Int)} (h : ∀ V ∈ Z, ∀ x ∈ V, -1048576 ≤ x ∧ x ≤ 1048576) (i : Nat) : ∀ k, -1048576 ≤ (lhS Z i k).1 ∧ (lhS Z i k).1 ≤ (lhS Z i k).2 ∧ (lhS Z i k).2 ≤ 1048576
  | 0 => by show (-1048576 : Int) ≤ 0 ∧ (0 : Int) ≤ 0 ∧ (0 : Int) ≤ 1048576; decide
  | k + 1 => by
    have hv : -1048576 ≤ (Z.getD k []).getD i 0 ∧ (Z.getD k []).getD i 0 ≤ 1048576 := by
      rw [List.getD_eq_getElem?_getD, List.getD_eq_getElem?_getD]
      cases hz : Z[k]? with
      | none => simp
      | some V =>
        simp only [Option.getD_some]
        cases hx : V[i]? with
        | none => simp
        | some x => exact h V (List.mem_of_getElem? hz) x (List.mem_of_getElem? hx)
    have ih := lhS_in h i k
    unfold lhS
    by_cases c : k = 0
    · simp only [c, if_true] at hv ⊢; omega
    · simp only [c, if_false]; omega
theorem lhS_spec {Z : List (List Int)} (i : Nat) : ∀ k, (∀ j, j < k → (lhS Z i k).1 ≤ (Z.getD j []).getD i 0 ∧ (Z.getD j []).getD i 0 ≤ (lhS Z i k).2) ∧ (0 < k → (∃ j, j < k ∧ (lhS Z i k).1 = (Z.getD j []).getD i 0) ∧ ∃ j, j < k ∧ (lhS Z i k).2 = (Z.getD j []).getD i 0)
  | 0 => ⟨fun j hj => absurd hj (by omega), fun h => absurd h (by omega)⟩
  | k + 1 => by
    obtain ⟨h1, h2⟩ := lhS_spec (Z := Z) i k
    unfold lhS
    generalize hv : (Z.getD k []).getD i 0 = v at *
    by_cases c : k = 0
    · subst c
      simp only [if_true]
      refine ⟨fun j hj => ?_, fun _ => ⟨⟨0, by omega, ?_⟩, ⟨0, by omega, ?_⟩⟩⟩
      · have : j = 0 := by omega
        subst this; rw [hv]; omega
      · rw [hv]; omega
      · rw [hv]; omega
    · simp only [c, if_false]
      obtain ⟨⟨a, ha, ea⟩, ⟨b, hb, eb⟩⟩ := h2 (by omega)
      refine ⟨fun j hj => ?_, fun _ => ⟨?_, ?_⟩⟩
      · rcases Nat.lt_or_ge j k with q | q
        · have := h1 j q; omega
        · have : j = k := by omega
          subst this; rw [hv]; omega
      · rcases Int.le_total (lhS Z i k).1 v with q | q
        · exact ⟨a, by omega, by omega⟩
        · exact ⟨k, by omega, by omega⟩
      · rcases Int.le_total (lhS Z i k).2 v with q | q
        · exact ⟨k, by omega, by omega⟩
        · exact ⟨b, by omega, by omega⟩
def goodL (Y : List Vq) (dim : Int) : List (List Int) := (goodV Y dim).map fun y => y.2.2
def lowF (Z : List (List Int)) (i : Nat) : Int := (lhS Z i Z.length).1
def stpF (Z : List (List Int)) (i : Nat) : Int := stepZ (lhS Z i Z.length).1 (lhS Z i Z.length).2
def makeN (dim : Int) : Nat := if 1 ≤ dim ∧ dim ≤ 8 then dim.toNat else 0
def makeLo (Y : List Vq) (dim : Int) : List Int := (List.range (makeN dim)).map (lowF (goodL Y dim))
def makeSt (Y : List Vq) (dim : Int) : List Int := (List.range (makeN dim)).map (stpF (goodL Y dim))
theorem goodL_in (Y : List Vq) (dim : Int) : ∀ V ∈ goodL Y dim, (V.length : Int) = dim ∧ ∀ x ∈ V, -1048576 ≤ x ∧ x ≤ 1048576 := by
  intro V hV
  obtain ⟨y, hy, rfl⟩ := List.mem_map.1 hV
  have := (List.mem_filter.1 hy).2
  have := (mayB_iff _ _).1 this
  exact ⟨this.2.2.1, this.2.2.2⟩
theorem stepZ_in {low high : Int} (h1 : -1048576 ≤ low) (h2 : low ≤ high) (h3 : high ≤ 1048576) : 1 ≤ stepZ low high ∧ stepZ low high ≤ 10000 := by unfold stepZ; omega

theorem make_at {e : TypeId} {k : IntKind} {by_ : Nat} (he : elT PP e = some (1, [.int k 0])) (hb : byOf PP e = some by_) (hby : by_ ≤ 8) {n : Nat} (hn : n ≤ 100000) (b : Nat) :
    w_makeSlice PP e H (.int .i64 n) (.int .i64 n) (some b) = some (.val (.slice (some (b, 0)) n n true) (H.put b (some (.cells e (List.replicate n (.int k 0)))))) := by
  have c1 : Nat.blt 0 1 = true := rfl
  have c2 : Nat.ble n n = true := by simp
  have c3 : Nat.ble (Nat.mul by_ n) 281474976710656 = true := by
    rw [Nat.ble_eq]
    show by_ * n ≤ _
    have : by_ * n ≤ 8 * n := Nat.mul_le_mul_right _ hby
    omega
  have c4 : Nat.ble n 4611686018427387904 = true := by rw [Nat.ble_eq]; omega
  have e2 : reps n [AV.int k 0] = List.replicate n (.int k 0) := by
    rw [reps_flatten (sz := 1) rfl]
    induction n with
    | zero => rfl
    | succ n ih => rw [List.replicate_succ, List.flatten_cons, ih (by omega) (by simp) (by rw [Nat.ble_eq]; show by_ * n ≤ _; have : by_ * n ≤ 8 * n := Nat.mul_le_mul_right _ hby; omega) (by rw [Nat.ble_eq]; omega)]; rfl
  simp only [w_makeSlice, oMakeSlice, he, hb, val_mk, c1, c2, c3, c4, br_true, natZ_cast, ob_some, newSlice, newTo_some_eq, e2]
theorem os_zeros {e : TypeId} {k : IntKind} {n b : Nat} (h : H.get b = some (.cells e (List.replicate n (.int k 0)))) (hb : b < H.next) : Os e k H b (.slice (some (b, 0)) n n true) (List.replicate n 0) := by
  have e1 : nums k (List.replicate n 0) = List.replicate n [AV.int k 0] := List.map_replicate
  have e2 : (List.replicate n [AV.int k 0]).flatten = List.replicate n (AV.int k 0) := by
    clear h e1
    induction n with
    | zero => rfl
    | succ n ih => rw [List.replicate_succ, List.flatten_cons, ih]; rfl
  show Own _ _ _ _ _ _
  rw [e1]
  exact ⟨.inr ⟨0, n, true, _, by rw [List.length_replicate], h, by simp, by simp, fun q => (by cases q), by rw [e2, List.drop_zero, List.length_replicate, Nat.mul_one, List.take_of_length_le (by simp)], hb⟩,
    fun x hx => by rw [(List.mem_replicate.1 hx).2]; rfl, fun x hx => by rw [(List.mem_replicate.1 hx).2]; rfl, fun x hx => by rw [(List.mem_replicate.1 hx).2]; rfl⟩
theorem book_zero : w_build PP 74 H [] = some (.val (.agg [.slice none 0 0 true, .slice none 0 0 true]) H) := by kernel_rfl
theorem endP_two {b : Nat} {e : TypeId} {x y : AV} (h : H.get b = some (.cells e [x, y])) (hx : x.known = true) (hy : y.known = true) (K : AV → AH → Prop) : endP (resR (partF (some (some 2))) H (.ptr (some (b, 0))) (some [])) K H = K (.agg [x, y]) H := by
  have e1 : clearA (.agg [x, y]) = some (.agg [x, y]) := by simp [clearA, allB_eq, hx, hy]
  have e2 : resR (partF (some (some 2))) H (.ptr (some (b, 0))) (some []) = some [.agg [x, y]] := by
    simp only [resR, partF, ob_some, onPtr, cellsTo, h]
    show ob (clearA (.agg [x, y])) (fun v => some [v]) = _
    rw [e1, ob_some]
  rw [e2]; rfl
theorem make_wp {b : Nat} {s : AV} {Y : List Vq} (h : Sl H 1 b s (vrow Y)) (hL : Y.length ≤ 1000) (hy : ∀ y ∈ Y, VEl H y) (dim : Int) (K : AV → AH → Prop)
    (hK : ∀ H' lo st bl bs, Ext [] H H' → H.next ≤ bl → H.next ≤ bs → Bk H' lo st bl bs (makeLo Y dim) (makeSt Y dim) → K (.agg [lo, st]) H') : CC.call 40 [.int .i64 dim, s] H K := by
  refine m_quant_Make_ok _ _ _ _ ?_
  unfold m_quant_Make
  rw [w_box_c, parts_int, show [AV.int .i64 dim].all AV.one = true from rfl, br_true, outP_val, w_alloc_none, outP_val]
  have x1 : Ext [] H ((H.new (.cells 3 [.int .i64 dim])).new (.cells 74 [.slice none 0 0 true, .slice none 0 0 true])) := ((Ext.refl _ _).new _).new _
  have hp0 : ((H.new (.cells 3 [.int .i64 dim])).new (.cells 74 [.slice none 0 0 true, .slice none 0 0 true])).get H.next = some (.cells 3 [.int .i64 dim]) := by
    rw [get_new_ne _ (by rw [next_new]; omega), get_new_same]
  have hp1 : ((H.new (.cells 3 [.int .i64 dim])).new (.cells 74 [.slice none 0 0 true, .slice none 0 0 true])).get (H.next + 1) = some (.cells 74 [.slice none 0 0 true, .slice none 0 0 true]) := by
    rw [← next_new H (.cells 3 [.int .i64 dim]), get_new_same]
  have n1 : ((H.new (.cells 3 [.int .i64 dim])).new (.cells 74 [.slice none 0 0 true, .slice none 0 0 true])).next = H.next + 2 := by rw [next_new, next_new]
  rw [next_new]
  generalize (H.new (.cells 3 [.int .i64 dim])).new (.cells 74 [.slice none 0 0 true, .slice none 0 0 true]) = G0 at *
  have ld0 : ∀ G : AH, G.get H.next = some (.cells 3 [.int .i64 dim]) → w_load none G (.ptr (some (H.next, 0))) = some (.val (.int .i64 dim) G) := fun G e => by
    rw [w_load_c, e, ldV_cells, show ([.int .i64 dim] : List AV)[0]? = some (.int .i64 dim) from rfl, ob_some, clearA_int, vO_some]
  unfold m_quant_Maket
  rw [ld0 _ hp0, outP_val, w_lss, outP_val, boolIs_bool, beq_ff]
  have bad : ¬ (1 ≤ dim ∧ dim ≤ 8) → outP CC G0 (w_build PP 74 G0 []) (fun v6 H6 => outP CC H6 (w_store 2 H6 (.ptr (some (H.next + 1, 0))) v6) fun _ H7 => endP (resR (partF (some (some 2))) H7 (.ptr (some (H.next + 1, 0))) (some [])) K H7) := by
    intro q
    rw [book_zero, outP_val, w_store_c, hp1, stN_two _ _ _ _ _ _ rfl rfl, outP_skip, endP_two (get_put_same _ _) rfl rfl]
    have e1 : makeLo Y dim = [] := by unfold makeLo makeN; rw [if_neg q]; rfl
    have e2 : makeSt Y dim = [] := by unfold makeSt makeN; rw [if_neg q]; rfl
    refine hK _ _ _ (H.next + 2) (H.next + 2) (x1.put (.inl (by omega)) _) (by omega) (by omega) ?_
    rw [e1, e2]
    exact ⟨⟨.inl ⟨.inl rfl, rfl⟩⟩, ⟨.inl ⟨.inl rfl, rfl⟩⟩, by simp, by simp, fun _ hx => (List.not_mem_nil hx).elim, fun _ hx => (List.not_mem_nil hx).elim⟩
  by_cases c1 : dim < 1
  · rw [decide_eq_true c1, Bool.not_true, guardP_false, guardP_false, w_pick_b, outP_val, if_pos rfl, condP_true]
    exact bad (by omega)
  rw [decide_eq_false c1, Bool.not_false, guardP_true, ld0 _ hp0, outP_val, guardP_true, w_gtr, outP_val, w_pick_b, outP_val, if_neg (by simp)]
  by_cases c2 : 8 < dim
  · rw [decide_eq_true c2, condP_true]
    exact bad (by omega)
  rw [decide_eq_false c2, condP_false]
  unfold m_quant_Makett
  rw [outP_enter]
  have hlow : ∀ y ∈ Y, y.2.1 < H.next ∨ y.2.2 = [] := fun y q => (hy y q).low
  refine vclone_wp (h.mono x1 (by simp)) hL _ fun G1 s1 B1 x2 hB1 o1 => ?_
  have x12 := x1.trans x2
  have n2 := x2.next
  have hp0' : G1.get H.next = _ := x2.get (by omega) (by simp) hp0
  have hp1' : G1.get (H.next + 1) = _ := x2.get (by omega) (by simp) hp1
  rw [outP_val, outP_enter]
  refine del_wp o1 (by omega) (fun y q => (hy y q).mono0 x12) (fun y q r => (hlow y q).resolve_left (by omega)) hp0' (by omega) (by omega) _ fun G2 s2 x3 hs2 => ?_
  have n3 := x3.next
  have hp0 : G2.get H.next = _ := x3.get (by omega) (by simp; omega) hp0'
  have hp1 : G2.get (H.next + 1) = _ := x3.get (by omega) (by simp; omega) hp1'
  obtain ⟨d, hd⟩ : ∃ d : Nat, dim = d := ⟨dim.toNat, by omega⟩
  subst hd
  have hN : makeN (d : Int) = d := by unfold makeN; rw [if_pos (by omega)]; rfl
  have hgood := goodL_in Y d
  have hZl : (goodL Y d).length = (goodV Y d).length := by unfold goodL; rw [List.length_map]
  have hEl : ∀ y ∈ goodV Y d, VEl G2 y := fun y q => by
    have q' := (List.mem_filter.1 q).1
    exact ((hy y q').mono0 x12).mono x3 (fun r => (hlow y q').resolve_left (by simp at r; omega))
  have hVl : ∀ y ∈ goodV Y d, y.2.1 < G2.next := fun y q => by
    rcases (hEl y q).low with r | r
    · exact r
    · have := (hgood y.2.2 (List.mem_map.2 ⟨y, q, rfl⟩)).1
      rw [r] at this; simp at this; omega
  unfold m_quant_Makettt
  have g0 : (G2.more 3).get H.next = _ := (get_more _ _ _).trans hp0
  rw [ld0 _ g0, outP_val, ld0 _ g0, outP_val, make_at i32_el i32_by (by omega) (by omega), outP_val, make_at i32_el i32_by (by omega) (by omega), outP_val, book_build (.inr (.inr ⟨_, _, _, _, _, rfl⟩)) (.inr (.inr ⟨_, _, _, _, _, rfl⟩)), outP_val, w_alloc_at, outP_val, w_store_c, get_put_same, stN_two _ _ _ _ _ _ rfl rfl, outP_skip]
  simp only [nat_add, Nat.add_zero]
  have x4 : Ext [] G2 (((((G2.more 3).put G2.next (some (.cells 21 (List.replicate d (.int .i32 0))))).put (G2.next + 1) (some (.cells 21 (List.replicate d (.int .i32 0))))).put (G2.next + 2) (some (.cells 74 [.slice none 0 0 true, .slice none 0 0 true]))).put (G2.next + 2) (some (.cells 74 [.slice (some (G2.next, 0)) d d true, .slice (some (G2.next + 1, 0)) d d true]))) :=
    ((((((Ext.refl _ _).more 3).put (.inl (Nat.le_refl _)) _).put (.inl (by omega)) _).put (.inl (by omega)) _).put (.inl (by omega)) _)
  have gl : (((((G2.more 3).put G2.next (some (.cells 21 (List.replicate d (.int .i32 0))))).put (G2.next + 1) (some (.cells 21 (List.replicate d (.int .i32 0))))).put (G2.next + 2) (some (.cells 74 [.slice none 0 0 true, .slice none 0 0 true]))).put (G2.next + 2) (some (.cells 74 [.slice (some (G2.next, 0)) d d true, .slice (some (G2.next + 1, 0)) d d true]))).get G2.next = some (.cells 21 (List.replicate d (.int .i32 0))) := by
    rw [get_put_ne _ (by omega), get_put_ne _ (by omega), get_put_ne _ (by omega), get_put_same]
  have gs : (((((G2.more 3).put G2.next (some (.cells 21 (List.replicate d (.int .i32 0))))).put (G2.next + 1) (some (.cells 21 (List.replicate d (.int .i32 0))))).put (G2.next + 2) (some (.cells 74 [.slice none 0 0 true, .slice none 0 0 true]))).put (G2.next + 2) (some (.cells 74 [.slice (some (G2.next, 0)) d d true, .slice (some (G2.next + 1, 0)) d d true]))).get (G2.next + 1) = some (.cells 21 (List.replicate d (.int .i32 0))) := by
    rw [get_put_ne _ (by omega), get_put_ne _ (by omega), get_put_same]
  have gb := get_put_same (H := (((G2.more 3).put G2.next (some (.cells 21 (List.replicate d (.int .i32 0))))).put (G2.next + 1) (some (.cells 21 (List.replicate d (.int .i32 0))))).put (G2.next + 2) (some (.cells 74 [.slice none 0 0 true, .slice none 0 0 true]))) (G2.next + 2) (some (.cells 74 [.slice (some (G2.next, 0)) d d true, .slice (some (G2.next + 1, 0)) d d true]))
  have n4 : (((((G2.more 3).put G2.next (some (.cells 21 (List.replicate d (.int .i32 0))))).put (G2.next + 1) (some (.cells 21 (List.replicate d (.int .i32 0))))).put (G2.next + 2) (some (.cells 74 [.slice none 0 0 true, .slice none 0 0 true]))).put (G2.next + 2) (some (.cells 74 [.slice (some (G2.next, 0)) d d true, .slice (some (G2.next + 1, 0)) d d true]))).next = G2.next + 3 := by
    rw [AH.next_put, AH.next_put, AH.next_put, AH.next_put, next_more]
  generalize ((((G2.more 3).put G2.next (some (.cells 21 (List.replicate d (.int .i32 0))))).put (G2.next + 1) (some (.cells 21 (List.replicate d (.int .i32 0))))).put (G2.next + 2) (some (.cells 74 [.slice none 0 0 true, .slice none 0 0 true]))).put (G2.next + 2) (some (.cells 74 [.slice (some (G2.next, 0)) d d true, .slice (some (G2.next + 1, 0)) d d true])) = G3 at *
  have ol := os_zeros gl (by omega)
  have os := os_zeros gs (by omega)
  have f1 : clearA (.slice (some (G2.next, 0)) d d true) = some (.slice (some (G2.next, 0)) d d true) := rfl
  have f2 : clearA (.slice (some (G2.next + 1, 0)) d d true) = some (.slice (some (G2.next + 1, 0)) d d true) := rfl
  have ff1 : (AV.slice (some (G2.next, 0)) d d true).known = true := rfl
  have ff2 : (AV.slice (some (G2.next + 1, 0)) d d true).known = true := rfl
  have fb1 : AV.beq (.slice (some (G2.next + 1, 0)) d d true) (.slice (some (G2.next + 1, 0)) d d true) = true := beq_slk (.inr (.inr ⟨_, _, _, _, _, rfl⟩))
  have fo1 : (AV.slice (some (G2.next, 0)) d d true).one = true := rfl
  have fo2 : (AV.slice (some (G2.next + 1, 0)) d d true).one = true := rfl
  generalize (AV.slice (some (G2.next, 0)) d d true) = lo at *
  generalize (AV.slice (some (G2.next + 1, 0)) d d true) = st at *
  unfold m_quant_Maketttth
  rw [ld0 _ (x4.get (by omega) (by simp) hp0), outP_val]
  unfold m_quant_Maketttthtb
  refine loopP_rule (I := fun t G => ∃ j : Nat, t = (s2, .ptr (some (H.next + 1, 0)), .ptr (some (G2.next + 2, 0)), .int .i64 d, .int .i64 j) ∧ j ≤ d ∧ Ext [G2.next, G2.next + 1] G3 G ∧ Os 21 .i32 G G2.next lo (fillTo (lowF (goodL Y d)) d j) ∧ Os 21 .i32 G (G2.next + 1) st (fillTo (stpF (goodL Y d)) d j))
    (μ := fun t _ => match t.2.2.2.2 with | .int _ z => d - z.toNat | _ => 0) ?_ ⟨0, rfl, Nat.zero_le _, Ext.refl _ _, by rw [fillTo_zero]; exact ol, by rw [fillTo_zero]; exact os⟩
  rintro t G ⟨j, rfl, hj, x5, ol', os'⟩ rec hrec
  have gb' : G.get (G2.next + 2) = _ := x5.get (by omega) (by simp) gb
  have n5 := x5.next
  unfold m_quant_Maketttthtbl
  rw [w_lss, outP_val]
  unfold m_quant_Maketttthtblt
  by_cases cj : j < d
  · rw [decide_eq_true (by omega), condP_true]
    unfold m_quant_Maketttthtbltthb m_quant_Maketttthtbltthbt m_quant_Maketttthtbltthbtth
    have hsG : Sl G 1 B1 s2 (vrow (goodV Y d)) := Sl.mono' (hs2.mono x4 (by simp)) x5 (fun q => by
      rcases hs2.low with r | r
      · simp at q; omega
      · exact r)
    have hElG : ∀ y ∈ goodV Y d, VEl G y := fun y q => ((hEl y q).mono0 x4).mono x5 (fun r => by
      have := hVl y q
      simp at r; omega)
    rw [vrow_len hsG, outP_val]
    unfold m_quant_Maketttthtbltthbtthtb
    refine loopP_rule (I := fun t G' => ∃ k : Nat, t = (s2, .ptr (some (H.next + 1, 0)), .ptr (some (G2.next + 2, 0)), .int .i64 j, .int .i32 (lhS (goodL Y d) j k).1, .int .i32 (lhS (goodL Y d) j k).2, .int .i64 d, .int .i64 j, s2, .int .i64 (goodV Y d).length, .int .i64 k) ∧ k ≤ (goodV Y d).length ∧ G' = G)
      (μ := fun t _ => match t.2.2.2.2.2.2.2.2.2.2 with | .int _ z => (goodV Y d).length - z.toNat | _ => 0) ?_ ⟨0, rfl, Nat.zero_le _, rfl⟩
    rintro t G' ⟨k, rfl, hk, rfl⟩ rec2 hrec2
    unfold m_quant_Maketttthtbltthbtthtbl
    have hgl : (goodV Y d).length ≤ 1000 := Nat.le_trans (List.length_filter_le _ _) hL
    rw [w_lss, outP_val]
    unfold m_quant_Maketttthtbltthbtthtblt
    by_cases ck : k < (goodV Y d).length
    · rw [decide_eq_true (by omega), condP_true]
      unfold m_quant_Maketttthtbltthbtthtbltthb
      obtain ⟨o, a1, a2, a3⟩ := vrow_at hsG ck
      have hv := hElG _ (List.getElem_mem ck)
      have hvg := hgood (goodV Y d)[k].2.2 (List.mem_map.2 ⟨_, List.getElem_mem ck, rfl⟩)
      have hjl : j < (goodV Y d)[k].2.2.length := by omega
      obtain ⟨o', b1, b2, b3⟩ := hv.is.at hjl
      have hval : ((goodL Y d).getD k []).getD j 0 = (goodV Y d)[k].2.2[j] := by
        have e1 : (goodL Y d).getD k [] = (goodV Y d)[k].2.2 := by
          rw [List.getD_eq_getElem?_getD]; unfold goodL; rw [List.getElem?_map, List.getElem?_eq_getElem ck]; rfl
        rw [e1]; exact getD_at hjl
      rw [a1, outP_val, w_load_c, a3, vO_some, outP_val]
      unfold m_quant_Maketttthtbltthbtthtbltthbt
      rw [w_eql, outP_val]
      have fin : ∀ l h : Int, (lhS (goodL Y d) j (k + 1)) = (min l (goodV Y d)[k].2.2[j], max h (goodV Y d)[k].2.2[j]) → m_quant_Maketttthtbltthbtthtbltthbtt K rec rec2 s2 (.ptr (some (H.next + 1, 0))) (.ptr (some (G2.next + 2, 0))) (.int .i64 j) (.int .i32 l) (.int .i32 h) (goodV Y d)[k].1 (.int .i64 d) (.int .i64 j) s2 (.int .i64 (goodV Y d).length) (.int .i64 k) G' := by
        intro l hh e
        unfold m_quant_Maketttthtbltthbtthtbltthbtt
        rw [b1, outP_val, w_load_c, b3, vO_some, outP_val, w_min2_int, outP_val, b1, outP_val, w_load_c, b3, vO_some, outP_val, w_max2_int, outP_val, w_add_in (by omega) (by omega), outP_val]
        refine hrec2 _ _ ⟨k + 1, by rw [e]; rfl, by omega, rfl⟩ ?_
        show (goodV Y d).length - ((k : Int) + 1).toNat < (goodV Y d).length - (k : Int).toNat
        omega
      by_cases c0 : k = 0
      · rw [decide_eq_true (by omega), condP_true, b1, outP_val, w_load_c, b3, vO_some, outP_val, b1, outP_val, w_load_c, b3, vO_some, outP_val]
        refine fin _ _ ?_
        show (_, _) = (_, _)
        rw [if_pos c0, if_pos c0, hval]
      · rw [decide_eq_false (by omega), condP_false]
        refine fin _ _ ?_
        show (_, _) = (_, _)
        rw [if_neg c0, if_neg c0, hval]
    · rw [decide_eq_false (by omega), condP_false]
      have hke : k = (goodL Y d).length := by omega
      have hin := lhS_in (fun V q => (hgood V q).2) j k
      have hst := stepZ_in hin.1 hin.2.1 hin.2.2
      have eL : lowF (goodL Y d) j = (lhS (goodL Y d) j k).1 := by unfold lowF; rw [hke]
      have eS : stpF (goodL Y d) j = stepZ (lhS (goodL Y d) j k).1 (lhS (goodL Y d) j k).2 := by unfold stpF; rw [hke]
      obtain ⟨p1, a1, a2, a3, a4⟩ := ol'.at (j := j) (by rw [fillTo_len]; exact cj)
      obtain ⟨G4, b1, b2, b3, o4⟩ := a4 (lowF (goodL Y d) j)
      rw [fillTo_set] at o4
      have os4 : Os 21 .i32 G4 (G2.next + 1) st (fillTo (stpF (goodL Y d)) d j) := Own.mono os' b2 (by simp)
      obtain ⟨p2, c1', c2', c3', c4'⟩ := os4.at (j := j) (by rw [fillTo_len]; exact cj)
      obtain ⟨G5, d1, d2, d3, o5⟩ := c4' (stpF (goodL Y d) j)
      rw [fillTo_set] at o5
      have gb4 : G4.get (G2.next + 2) = _ := b2.get (by omega) (by simp) gb'
      rw [eL] at b1
      rw [eS] at d1
      generalize (lhS (goodL Y d) j k).1 = l at *
      generalize (lhS (goodL Y d) j k).2 = hh at *
      have hdiv : (hh - l + 255 - 1).tdiv 255 = (hh - l + 254) / 255 := by rw [Int.tdiv_eq_ediv_of_nonneg (by omega)]; congr 1; omega
      have hsz : max ((hh - l + 254) / 255) 1 = stepZ l hh := rfl
      rw [w_fieldAddr_ptr, outP_val, w_load_c, gb', ldV_cells, Nat.zero_add, show ([lo, st] : List AV)[0]? = some lo from rfl, ob_some, f1, vO_some, outP_val]
      rw [w_fieldAddr_ptr, outP_val, w_load_c, gb', ldV_cells, Nat.zero_add, show ([lo, st] : List AV)[1]? = some st from rfl, ob_some, f2, vO_some, outP_val]
      rw [w_sub, outP_val, wrap32_in (by omega) (by omega), w_add, outP_val, wrap32_in (by omega) (by omega), w_sub, outP_val, wrap32_in (by omega) (by omega), w_quo _ _ _ (show (255 : Int) ≠ 0 by decide), outP_val, hdiv, wrap32_in (by omega) (by omega), w_max2_int, outP_val, hsz]
      rw [a1, outP_val, w_store_c, b1, outP_skip]
      rw [w_load_c, gb4, ldV_cells, show ([lo, st] : List AV)[1]? = some st from rfl, ob_some, f2, vO_some, reC_val, fb1, ckP_true]
      rw [c1', outP_val, w_store_c, d1, outP_skip, w_add_in (by omega) (by omega), outP_val]
      refine hrec _ _ ⟨j + 1, by rfl, by omega, x5.trans ((b2.mono (by simp)).trans (d2.mono (by simp))), Own.mono o4 d2 (by simp), o5⟩ ?_
      show d - ((j : Int) + 1).toNat < d - (j : Int).toNat
      omega
  · rw [decide_eq_false (by omega), condP_false]
    have : j = d := by omega
    subst this
    rw [fillTo_all] at ol' os'
    have hp1G : G.get (H.next + 1) = _ := x5.get (by omega) (by simp; omega) (x4.get (by omega) (by simp) hp1)
    rw [w_load_n, gb', ldN_two _ ff1 ff2, vO_some, outP_val, w_store_c, hp1G, stN_two _ _ _ _ _ _ fo1 fo2, outP_skip, endP_two (get_put_same _ _) ff1 ff2]
    have xe : Ext [H.next + 1] G (G.put (H.next + 1) (some (.cells 74 [lo, st]))) := (Ext.refl _ _).put (.inr (by simp)) _
    have xf : Ext [] H (G.put (H.next + 1) (some (.cells 74 [lo, st]))) := by
      refine ((((x12.mono (m' := [B1, G2.next, G2.next + 1, H.next + 1]) (by simp)).trans (x3.mono (by simp))).trans (x4.mono (by simp))).trans ((x5.mono (by simp)).trans (xe.mono (by simp)))).mono fun b hb hlt => ?_
      simp at hb; omega
    have eLo : makeLo Y j = (List.range j).map (lowF (goodL Y j)) := by unfold makeLo; rw [hN]
    have eSt : makeSt Y j = (List.range j).map (stpF (goodL Y j)) := by unfold makeSt; rw [hN]
    refine hK _ lo st G2.next (G2.next + 1) xf (by omega) (by omega) ?_
    rw [eLo, eSt]
    refine ⟨(Own.mono ol' xe (by simp; omega)).sl, (Own.mono os' xe (by simp; omega)).sl, by simp; omega, by simp; omega, fun x hx => ?_, fun x hx => ?_⟩
    · obtain ⟨i, hi, rfl⟩ := List.mem_map.1 hx
      have := lhS_in (fun V q => (hgood V q).2) i (goodL Y j).length
      unfold lowF; omega
    · obtain ⟨i, hi, rfl⟩ := List.mem_map.1 hx
      have h1 := lhS_in (fun V q => (hgood V q).2) i (goodL Y j).length
      have := stepZ_in h1.1 h1.2.1 h1.2.2
      unfold stpF; omega
end
end Go.Ab
