/- best: what its functions do, at any input. -/
import Derived.Test.YtoafnnphjbdedaaGreatDoorEv3
import Derived.Test.YtoafnnphjbdedaaGreatDoorMBest
namespace Go.Ab
noncomputable section
open Go.Proofs
set_option maxRecDepth 10000
variable {H H' : AH}

def hitL (h : Int × Int) : List AV := [.int .i64 h.1, .int .i64 h.2]
def hitA (h : Int × Int) : AV := .agg (hitL h)
def lessB (x y : Int × Int) : Bool := if x.2 = y.2 then decide (x.1 < y.1) else decide (x.2 < y.2)

theorem less_wp (x y : Int × Int) (H : AH) (K : AV → AH → Prop) (hK : ∀ H', Ext [] H H' → K (.bool (lessB x y)) H') : CC.call 26 [hitA x, hitA y] H K := by
  refine m_metric_Less_ok _ _ _ _ ?_
  unfold m_metric_Less hitA hitL
  have hx : Ext [] H ((H.new (.cells 37 [.int .i64 x.1, .int .i64 x.2])).new (.cells 37 [.int .i64 y.1, .int .i64 y.2])) := ((Ext.refl _ _).new _).new _
  simp (disch := first | omega | exact one_int _ _ | exact one_slice _ _ _ _ | exact one_ptr _ | assumption | ((repeat (first | rw [next_new] | rw [AH.next_put] | rw [next_more])) <;> omega) | fail) only [outP_val, w_fieldAddr_ptr, w_load_c, get_new_eq, get_new_ne, next_new, ldV_cells, 
      vO_some, Nat.zero_add, Nat.add_zero, List.getElem?_cons_zero, List.getElem?_cons_succ, ob_some, clearA_int, w_box_c, parts_agg, 
      one_int, List.all_cons, List.all_nil, Bool.and_self, br_true, w_neq, w_lss, 
      condP_not 
      ]
  refine ⟨fun h => ?_, fun h => ?_⟩
  · have := hK _ hx; rw [lessB, if_neg h] at this; exact this
  · have := hK _ hx; rw [lessB, if_pos h] at this; exact this

/-! Rows of hits. -/
abbrev Hs (H : AH) (b : Nat) (s : AV) (L : List (Int × Int)) : Prop := Sl H 2 b s (L.map hitL)
theorem Hs.at {b : Nat} {s : AV} {L : List (Int × Int)} (h : Hs H b s L) {j : Nat} (hj : j < L.length) : ∃ o, (∀ G : AH, w_indexAddr (.sl 2) G s (.int .i64 j) = some (.val (.ptr (some (b, o))) G)) ∧ b < H.next ∧ ldN 2 (H.get b) o = some (hitA L[j]) := by
  obtain ⟨o, h1, h2, h3⟩ := Sl.at h (j := j) (by simpa using hj) .i64
  have e : (L.map hitL)[j]'(by simpa using hj) = hitL L[j] := by simp
  rw [e] at h3
  exact ⟨o, h1, h2, ldN_of (l := hitL L[j]) (by simp [hitL]) rfl h3 rfl⟩
theorem Hs.len {b : Nat} {s : AV} {L : List (Int × Int)} (h : Hs H b s L) (G : AH) : w_len PP 32 G s = some (.val (.int .i64 L.length) G) := by
  have := Sl.len (P := PP) h hit_sl G
  rwa [List.length_map] at this

/-! Is one of this Id among them? -/
theorem same_wp (x : Int × Int) {p : Nat} {h : Int × Int} (hp : H.get p = some (.cells 37 (hitL h))) (hlt : p < H.next) (K : AV → AH → Prop) (hK : ∀ H', Ext [] H H' → K (.bool (decide (x.1 = h.1))) H') : CC.call 61 [hitA x, .ptr (some (p, 0))] H K := by
  refine m_best_Best_Put_1_ok _ _ _ _ ?_
  unfold m_best_Best_Put_1 hitA hitL at *
  have hx : Ext [] H (H.new (.cells 37 [.int .i64 x.1, .int .i64 x.2])) := (Ext.refl _ _).new _
  simp (disch := first | omega | exact one_int _ _ | exact one_slice _ _ _ _ | exact one_ptr _ | assumption | ((repeat (first | rw [next_new] | rw [AH.next_put] | rw [next_more])) <;> omega) | fail) only [outP_val, w_fieldAddr_ptr, w_load_c, get_new_eq, get_new_ne, ldV_cells, 
      vO_some, Nat.add_zero, List.getElem?_cons_zero, ob_some, clearA_int, w_box_c, parts_agg, 
      one_int, List.all_cons, List.all_nil, Bool.and_self, br_true, w_eql, 
      
      hp]
  exact hK _ hx

theorem index_wp {b : Nat} {s : AV} {L : List (Int × Int)} (hs : Hs H b s L) (hL : L.length ≤ 1000000) {p : Nat} {h : Int × Int} (hp : H.get p = some (.cells 37 (hitL h))) (hlt : p < H.next) (K : AV → AH → Prop)
    (hK : ∀ H' i, Ext [] H H' → (0 ≤ i ↔ L.any (fun x => decide (x.1 = h.1)) = true) → K (.int .i64 i) H') : CC.call 89 [s, .fn (.func 61) [] [.ptr (some (p, 0))]] H K := by
  refine m_slices_IndexFunc_api_Hit_api_Hit_ok _ _ _ _ ?_
  unfold m_slices_IndexFunc_api_Hit_api_Hit m_slices_IndexFunc_api_Hit_api_Hitth
  rw [hs.len, outP_val]
  unfold m_slices_IndexFunc_api_Hit_api_Hitthtb
  refine loopP_rule (I := fun t G => ∃ j, t = (s, .fn (.func 61) [] [.ptr (some (p, 0))], .int .i64 L.length, .int .i64 (j : Nat)) ∧ j ≤ L.length ∧ Ext [] H G ∧ ∀ x ∈ L.take j, x.1 ≠ h.1) (μ := fun t _ => match t.2.2.2 with | .int _ z => L.length - z.toNat | _ => 0) ?_ ⟨0, rfl, Nat.zero_le _, Ext.refl _ _, fun x hx => by simp at hx⟩
  rintro t G ⟨j, rfl, hj, he, hno⟩ rec hrec
  unfold m_slices_IndexFunc_api_Hit_api_Hitthtbl
  simp (disch := first | omega | exact one_int _ _ | exact one_slice _ _ _ _ | exact one_ptr _ | assumption | ((repeat (first | rw [next_new] | rw [AH.next_put] | rw [next_more])) <;> omega) | fail) only [outP_val, 
      w_lss, w_add, wrap64_in, 
      condP_dec 
      ]
  refine ⟨fun hlt' => ?_, fun hge => ?_⟩
  · have hj' : j < L.length := by omega
    obtain ⟨o, h1, h2, h3⟩ := Hs.at (Sl.mono hs he (by simp)) hj'
    have hnx := he.next
    rw [h1, outP_val, w_load_n, h3, vO_some, outP_val]
    show CC.call 61 [hitA L[j], .ptr (some (p, 0))] G _
    refine same_wp L[j] (he.get hlt (by simp) hp) (by omega) _ fun G' he' => ?_
    simp (disch := first | omega | exact one_int _ _ | exact one_slice _ _ _ _ | exact one_ptr _ | assumption | ((repeat (first | rw [next_new] | rw [AH.next_put] | rw [next_more])) <;> omega) | fail) only [
      
      
      condP_dec 
      ]
    refine ⟨fun e => ?_, fun e => ?_⟩
    · exact hK _ _ (he.trans he') ⟨fun _ => List.any_eq_true.2 ⟨L[j], List.getElem_mem hj', by simpa using e⟩, fun _ => by omega⟩
    · refine hrec _ _ ⟨j + 1, by rfl, by omega, he.trans he', fun x hx => ?_⟩ ?_
      · rw [List.take_succ_eq_append_getElem hj', List.mem_append] at hx
        rcases hx with hx | hx
        · exact hno x hx
        · simp at hx; subst hx; exact e
      · show L.length - ((j : Int) + 1).toNat < L.length - (j : Int).toNat
        omega
  · have : j = L.length := by omega
    subst this
    refine hK _ _ he ⟨fun q => by omega, fun q => ?_⟩
    obtain ⟨x, hx, hx'⟩ := List.any_eq_true.1 q
    exact absurd (by simpa using hx') (hno x (by simpa using hx))
theorem contains_wp {b : Nat} {s : AV} {L : List (Int × Int)} (hs : Hs H b s L) (hL : L.length ≤ 1000000) {p : Nat} {h : Int × Int} (hp : H.get p = some (.cells 37 (hitL h))) (hlt : p < H.next) (K : AV → AH → Prop)
    (hK : ∀ H', Ext [] H H' → K (.bool (L.any (fun x => decide (x.1 = h.1)))) H') : CC.call 60 [s, .fn (.func 61) [] [.ptr (some (p, 0))]] H K := by
  refine m_slices_ContainsFunc_api_Hit_api_Hit_ok _ _ _ _ ?_
  unfold m_slices_ContainsFunc_api_Hit_api_Hit
  rw [outP_enter]
  refine index_wp hs hL hp hlt _ fun G i he hi => ?_
  simp (disch := first | omega | exact one_int _ _ | exact one_slice _ _ _ _ | exact one_ptr _ | assumption | ((repeat (first | rw [next_new] | rw [AH.next_put] | rw [next_more])) <;> omega) | fail) only [outP_val, 
      
      w_geq 
      
      ]
  have : decide (0 ≤ i) = L.any (fun x => decide (x.1 = h.1)) := by rw [Bool.eq_iff_iff, decide_eq_true_iff]; exact hi
  rw [this]; exact hK _ he

/-! A slice that Best owns: open behind, or none. -/
def flat (L : List (Int × Int)) : List AV := L.flatMap hitL
theorem flat_length : ∀ L : List (Int × Int), (flat L).length = L.length * 2
  | [] => rfl
  | x :: L => by rw [flat, List.flatMap_cons, List.length_append, ← flat, flat_length L]; simp only [hitL, List.length_cons, List.length_nil]; omega
theorem flat_known : ∀ L : List (Int × Int), (flat L).all AV.known = true
  | [] => rfl
  | x :: L => by rw [flat, List.flatMap_cons, List.all_append, ← flat, flat_known L]; rfl
theorem flat_append (A B : List (Int × Int)) : flat (A ++ B) = flat A ++ flat B := List.flatMap_append
theorem flat_take (L : List (Int × Int)) (i : Nat) : (flat L).take (i * 2) = flat (L.take i) := by
  rcases Nat.lt_or_ge i L.length with h | h
  · have e : L = L.take i ++ L.drop i := (List.take_append_drop i L).symm
    conv => lhs; rw [e]
    rw [flat_append, List.take_left' (by rw [flat_length, List.length_take]; omega)]
  · rw [List.take_of_length_le h, List.take_of_length_le (by rw [flat_length]; omega)]
theorem flat_drop (L : List (Int × Int)) (i : Nat) : (flat L).drop (i * 2) = flat (L.drop i) := by
  rcases Nat.lt_or_ge i L.length with h | h
  · have e : L = L.take i ++ L.drop i := (List.take_append_drop i L).symm
    conv => lhs; rw [e]
    rw [flat_append, List.drop_left' (by rw [flat_length, List.length_take]; omega)]
  · rw [List.drop_eq_nil_of_le h, List.drop_eq_nil_of_le (by rw [flat_length]; omega)]; rfl
theorem flat_get : ∀ (L : List (Int × Int)) (j : Nat) (x : List AV), (L.map hitL)[j]? = some x → ∀ i v, x[i]? = some v → (flat L)[j * 2 + i]? = some v
  | [], j, x, h, _, _, _ => by simp at h
  | y :: L, 0, x, h, i, v, hv => by
    simp at h; subst h
    rw [flat, List.flatMap_cons, List.getElem?_append_left]
    · simpa using hv
    · have := (List.getElem?_eq_some_iff.1 hv).1; simpa using this
  | y :: L, j + 1, x, h, i, v, hv => by
    rw [flat, List.flatMap_cons, List.getElem?_append_right (by simp only [hitL, List.length_cons, List.length_nil]; omega)]
    have := flat_get L j x (by simpa using h) i v hv
    rw [← this]; congr 1; simp only [hitL, List.length_cons, List.length_nil]; omega

structure OpHits (H : AH) (B : Nat) (s : AV) (L : List (Int × Int)) : Prop where
  ex : (s = .slice none 0 0 true ∧ L = []) ∨ ∃ o c cs, s = .slice (some (B, o)) L.length c false ∧ H.get B = some (.cells 37 cs) ∧ L.length ≤ c ∧ 0 < c ∧ cs.length = o + c * 2 ∧ (cs.drop o).take (L.length * 2) = flat L ∧ B < H.next
theorem OpHits.hs {B : Nat} {s : AV} {L : List (Int × Int)} (h : OpHits H B s L) : Hs H B s L := by
  obtain ⟨rfl, rfl⟩ | ⟨o, c, cs, rfl, h1, h2, h0, h3, h4, h5⟩ := h.ex
  · exact ⟨.inl ⟨.inl rfl, rfl⟩⟩
  · refine ⟨.inr ⟨o, c, false, by rw [List.length_map], ⟨h5, fun x hx => ?_, fun x hx => ?_, fun x hx => ?_, fun j x hx i v hv => ?_⟩, by rw [List.length_map]; exact h2⟩⟩
    · obtain ⟨y, _, rfl⟩ := List.mem_map.1 hx; rfl
    · obtain ⟨y, _, rfl⟩ := List.mem_map.1 hx; rfl
    · obtain ⟨y, _, rfl⟩ := List.mem_map.1 hx; rfl
    · have hj : j < L.length := by have := (List.getElem?_eq_some_iff.1 hx).1; simpa using this
      have hi : i < 2 := by
        obtain ⟨y, _, rfl⟩ := List.mem_map.1 (List.mem_of_getElem? hx)
        exact (List.getElem?_eq_some_iff.1 hv).1
      rw [h1, cellOf_cells, ← flat_get L j x hx i v hv, ← h4, List.getElem?_take, if_pos (by omega), List.getElem?_drop, Nat.add_assoc]
theorem OpHits.mono {B : Nat} {s : AV} {L : List (Int × Int)} (h : OpHits H B s L) {m : List Nat} (e : Ext m H H') (hb : B ∉ m) : OpHits H' B s L := by
  obtain ⟨rfl, rfl⟩ | ⟨o, c, cs, rfl, h1, h2, h0, h3, h4, h5⟩ := h.ex
  · exact ⟨.inl ⟨rfl, rfl⟩⟩
  · exact ⟨.inr ⟨o, c, cs, rfl, e.get h5 hb h1, h2, h0, h3, h4, Nat.lt_of_lt_of_le h5 e.next⟩⟩
theorem OpHits.facts {B : Nat} {s : AV} {L : List (Int × Int)} (h : OpHits H B s L) : s.one = true ∧ clearA s = some s ∧ s.parts = [s] := by
  obtain ⟨rfl, rfl⟩ | ⟨o, c, cs, rfl, _⟩ := h.ex <;> exact ⟨rfl, rfl, rfl⟩
/-- It is cut behind k. -/
theorem OpHits.cut {B : Nat} {s : AV} {L : List (Int × Int)} (h : OpHits H B s L) (n : Nat) (hn : n ≤ L.length) : ∃ s', (∀ G : AH, w_slice (.sl 2) true false G s none (some (.int .i64 n)) none = some (.val s' G)) ∧ OpHits H B s' (L.take n) := by
  obtain ⟨rfl, rfl⟩ | ⟨o, c, cs, rfl, h1, h2, h0, h3, h4, h5⟩ := h.ex
  · obtain rfl : n = 0 := by simpa using hn
    exact ⟨.slice none 0 0 true, fun _ => rfl, ⟨.inl ⟨rfl, by simp⟩⟩⟩
  · refine ⟨.slice (some (B, o)) n c false, ?_, ⟨.inr ⟨o, c, cs, by rw [List.length_take, Nat.min_eq_left hn], h1, by rw [List.length_take]; omega, h0, h3, ?_, h5⟩⟩⟩
    · intro G
      have := w_slice_op (H := G) (sz := 2) (b := B) (o := o) (n := L.length) (c := c) (hasHi := true) none (some (.i64, n)) (Nat.zero_le _) (Nat.le_trans hn h2) h0
      simpa [loB, loN] using this
    · rw [List.length_take, Nat.min_eq_left hn, ← flat_take, ← h4, List.take_take]
      congr 1; omega

theorem next_upTo (H : AH) (n : Nat) : (H.upTo n).next = n := rfl
/-- One hit is put in. -/
theorem OpHits.insert {B : Nat} {s : AV} {L : List (Int × Int)} (h : OpHits H B s L) {i : Nat} (hi : i ≤ L.length) (hL : L.length ≤ 1000) {vb : Nat} {x : Int × Int} (hv : H.get vb = some (.cells 37 (hitL x))) (_hlt : vb < H.next) (hne : vb ≠ B) (K : AV → AH → Prop)
    (hK : ∀ H' s', Ext [B] H H' → OpHits H' (H.next + 8) s' (L.take i ++ x :: L.drop i) → K s' H') : CC.call 62 [s, .int .i64 i, .slice (some (vb, 0)) 1 1 true] H K := by
  have hp : prims7 62 = some insertA := by kernel_rfl
  have e2 : (hitL x).length = 2 := rfl
  have hu : isU8 PP 37 = false := by kernel_rfl
  have t2 : ((hitL x).drop 0).take 2 = hitL x := rfl
  have k2 : allB AV.known (hitL x) = true := rfl
  have hr : flat (L.take i ++ x :: L.drop i) = (flat L).take (i * 2) ++ (hitL x ++ (flat L).drop (i * 2)) := by
    rw [flat_append, flat_take, flat_drop]; rfl
  have hrl : (L.take i ++ x :: L.drop i).length = L.length + 1 := by
    rw [List.length_append, List.length_cons, List.length_take, List.length_drop]; omega
  obtain ⟨rfl, rfl⟩ | ⟨o, c, cs, rfl, h1, h2, h0, h3, h4, h5⟩ := h.ex
  · obtain rfl : i = 0 := by simpa using hi
    refine prim_wp (P := PP) (prim := prims7) hp (v := .slice (some (H.next + 8, 0)) 1 1 false) (H' := (H.put (H.next + 8) (some (.cells 37 (hitL x)))).upTo (H.next + 9)) ?_ ?_
    · simp only [insertA, natZ_cast, ob_some, hv, hu, br_false, t2, k2, br_true, e2]
      rfl
    · refine hK _ _ ⟨?_, fun b hb _ => ?_⟩ ⟨.inr ⟨0, 1, hitL x, rfl, ?_, by simp, by omega, rfl, rfl, ?_⟩⟩
      · rw [next_upTo]; omega
      · rw [get_upTo, AH.get_put, if_neg (by omega)]
      · rw [get_upTo, AH.get_put, if_pos rfl]
      · rw [next_upTo]; omega
  · have c1 : Nat.beq vb B = false := Bool.eq_false_iff.2 fun q => hne (Nat.eq_of_beq_eq_true q)
    have c2 : Nat.ble i L.length = true := by simpa using hi
    have c3 : Nat.ble L.length c = true := by simpa using h2
    have c4 : Nat.beq cs.length (o + c * 2) = true := by rw [h3]; simp
    have c5 : Nat.ble L.length 1000000 = true := by rw [Nat.ble_eq]; omega
    have c6 : Nat.beq 37 37 = true := rfl
    refine prim_wp (P := PP) (prim := prims7) hp (v := .slice (some (H.next + 8, 0)) (L.length + 1) (L.length + 1) false) (H' := ((H.put B none).put (H.next + 8) (some (.cells 37 ((flat L).take (i * 2) ++ (hitL x ++ (flat L).drop (i * 2)))))).upTo (H.next + 9)) ?_ ?_
    · simp only [insertA, natZ_cast, ob_some, hv, hu, br_false, t2, k2, br_true, e2, c1, h1, c2, c3, c4, c5, c6, h4, allB_eq, flat_known]
      rfl
    · refine hK _ _ ⟨?_, fun b hb hm => ?_⟩ ⟨.inr ⟨0, L.length + 1, flat (L.take i ++ x :: L.drop i), by rw [hrl], ?_, by rw [hrl]; omega, by omega, by rw [flat_length, hrl]; omega, ?_, ?_⟩⟩
      · rw [next_upTo]; omega
      · rw [get_upTo, AH.get_put, if_neg (by omega), AH.get_put, if_neg (by simpa using hm)]
      · rw [get_upTo, AH.get_put, if_pos rfl, hr]
      · rw [List.drop_zero, List.take_of_length_le]; rw [flat_length]; omega
      · rw [next_upTo]; omega

/-! New. -/
structure IsBest (H : AH) (p B k : Nat) (L : List (Int × Int)) : Prop where
  ex : ∃ s, H.get p = some (.cells 99 [s, .int .i64 k]) ∧ OpHits H B s L
  lt : p < H.next
  ne : B ≠ p
  len : L.length ≤ k
theorem IsBest.mono {p B k : Nat} {L : List (Int × Int)} (h : IsBest H p B k L) {m : List Nat} (e : Ext m H H') (hp : p ∉ m) (hb : B ∉ m) : IsBest H' p B k L := by
  obtain ⟨s, h1, h2⟩ := h.ex
  exact ⟨⟨s, e.get h.lt hp h1, h2.mono e hb⟩, Nat.lt_of_lt_of_le h.lt e.next, h.ne, h.len⟩
theorem best_build (n : Int) : w_build PP 99 H [(1, .int .i64 n)] = some (.val (.agg [.slice none 0 0 true, .int .i64 n]) H) := by kernel_rfl
theorem new_wp (k : Int) (K : AV → AH → Prop) (hK : ∀ H', Ext [] H H' → IsBest H' H.next (H.next + 1) k.toNat [] → K (.ptr (some (H.next, 0))) H') : CC.call 20 [.int .i64 k] H K := by
  refine m_best_New_ok _ _ _ ?_
  unfold m_best_New
  simp (disch := first | omega | exact one_int _ _ | exact one_slice _ _ _ _ | exact one_ptr _ | assumption | ((repeat (first | rw [next_new] | rw [AH.next_put] | rw [next_more])) <;> omega) | fail) only [outP_val, 
      w_box_c, parts_agg, 
      one_int, one_slice, List.all_cons, List.all_nil, Bool.and_self, br_true, 
      w_max2_int, 
      best_build]
  have : max k 0 = ((k.toNat : Nat) : Int) := by omega
  rw [this]
  refine hK _ ((Ext.refl _ _).new _) ⟨⟨_, get_new_same _ _, ⟨.inl ⟨rfl, rfl⟩⟩⟩, by rw [next_new]; omega, by omega, Nat.zero_le _⟩

/-! Put. -/
def posL (L : List (Int × Int)) (h : Int × Int) : Nat := (L.takeWhile fun x => lessB x h).length
def putL (k : Nat) (L : List (Int × Int)) (h : Int × Int) : List (Int × Int) × Bool :=
  if L.any (fun x => decide (x.1 = h.1)) = true then (L, false) else if k ≤ posL L h then (L, false) else ((L.take (posL L h) ++ h :: L.drop (posL L h)).take k, true)
theorem posL_le (L : List (Int × Int)) (h : Int × Int) : posL L h ≤ L.length := (List.takeWhile_prefix _).length_le
theorem posL_at {L : List (Int × Int)} {h : Int × Int} {j : Nat} (hj : j < L.length) (hp : ∀ i (hi : i < j), lessB (L[i]'(by omega)) h = true) (hn : lessB L[j] h = false) : posL L h = j := by
  induction j generalizing L with
  | zero =>
    cases L with
    | nil => cases hj
    | cons x L => simp [posL, List.takeWhile_cons]; simpa using hn
  | succ j ih =>
    cases L with
    | nil => cases hj
    | cons x L =>
      have h0 : lessB x h = true := hp 0 (by omega)
      have := ih (L := L) (by simpa using hj) (fun i hi => hp (i + 1) (by omega)) (by simpa using hn)
      simp only [posL, List.takeWhile_cons, h0, if_true, List.length_cons] at this ⊢
      omega
theorem posL_all {L : List (Int × Int)} {h : Int × Int} (hp : ∀ i (hi : i < L.length), lessB L[i] h = true) : posL L h = L.length := by
  induction L with
  | nil => rfl
  | cons x L ih =>
    have h0 : lessB x h = true := hp 0 (by simp)
    have := ih fun i hi => hp (i + 1) (by simpa using hi)
    simp only [posL, List.takeWhile_cons, h0, if_true, List.length_cons] at this ⊢
    omega
theorem put_len (k : Nat) (L : List (Int × Int)) (h : Int × Int) (hl : L.length ≤ k) : (putL k L h).1.length ≤ k := by
  unfold putL
  split
  · exact hl
  · split
    · exact hl
    · rw [List.length_take]; omega
theorem hit_el : elT PP 37 = some (2, [.int .i64 0, .int .i64 0]) := by kernel_rfl
theorem bs_one (x : Int × Int) (b : Nat) : w_buildSlice PP 37 1 H [(0, .agg [.int .i64 x.1, .int .i64 x.2])] (some b) = some (.val (.slice (some (b, 0)) 1 1 true) (H.put b (some (.cells 37 [.int .i64 x.1, .int .i64 x.2])))) := by
  have h1 : Nat.ble (1 * 2) 16777216 = true := rfl
  have h2 : fillA (fun i => some (i * 2, 2)) [(0, AV.agg [.int .i64 x.1, .int .i64 x.2])] (reps 1 [AV.int IntKind.i64 0, AV.int IntKind.i64 0]) = some [.int .i64 x.1, .int .i64 x.2] := rfl
  have h3 : allB (fun x : Nat × AV => allB AV.one x.2.parts) [(0, .agg [.int .i64 x.1, .int .i64 x.2])] = true := rfl
  simp only [w_buildSlice, oBuildSlice, hit_el, h1, h2, h3, br_true, val_mk, ob_some, newSlice, newTo_some_eq]
theorem eq_33 (b o : Nat) : w_eq PP .eql 33 false true H (.ptr (some (b, o))) (.ptr none) = some (.val (.bool false) H) := by kernel_rfl

set_option maxRecDepth 10000 in
theorem put_wp' {p B k : Nat} {L : List (Int × Int)} (hb : IsBest H p B k L) (hL : L.length ≤ 500) (h : Int × Int) (K : AV → AH → Prop)
    (hK : ∀ H' B', Ext [p, B] H H' → (B' = B ∧ (putL k L h).2 = false ∨ H.next ≤ B') → IsBest H' p B' k (putL k L h).1 → K (.bool (putL k L h).2) H') : CC.call 21 [.ptr (some (p, 0)), hitA h] H K := by
  refine m_best_Best_Put_ok _ _ _ _ ?_
  unfold m_best_Best_Put m_best_Best_Putt hitA hitL
  have hlt := hb.lt
  have hx : Ext [] H (H.new (.cells 37 [.int .i64 h.1, .int .i64 h.2])) := (Ext.refl _ _).new _
  obtain ⟨s, hg, hop⟩ := hb.ex
  have hcl := hop.facts.2.1
  simp (disch := first | omega | exact one_int _ _ | exact one_slice _ _ _ _ | exact one_ptr _ | assumption | ((repeat (first | rw [next_new] | rw [AH.next_put] | rw [next_more])) <;> omega) | fail) only [outP_val, outP_enter, w_nil_ptr, w_fieldAddr_ptr, w_load_c, get_new_ne, ldV_cells, 
      vO_some, Nat.add_zero, List.getElem?_cons_zero, ob_some, w_box_c, parts_agg, 
      one_int, List.all_cons, List.all_nil, Bool.and_self, br_true, w_pick_b, 
      boolIs_bool, guardP_true, beq_ff, 
      Bool.not_false, if_false, Bool.false_eq_true, eq_33, hg, hcl]
  have hopx : OpHits (H.new (.cells 37 [.int .i64 h.1, .int .i64 h.2])) B s L := hop.mono hx (by simp)
  refine contains_wp hopx.hs (by omega) (h := h) (get_new_same _ _) (by rw [next_new]; omega) _ fun G0 he => ?_
  simp (disch := first | omega | exact one_int _ _ | exact one_slice _ _ _ _ | exact one_ptr _ | assumption | ((repeat (first | rw [next_new] | rw [AH.next_put] | rw [next_more])) <;> omega) | fail) only [
      
      
      
      condP_bool]
  have he0 : Ext [] H G0 := hx.trans he
  have hb0 : IsBest G0 p B k L := hb.mono he0 (by simp) (by simp)
  refine ⟨fun hc => ?_, fun hc => ?_⟩
  · have e : putL k L h = (L, false) := by unfold putL; rw [if_pos hc]
    have := hK G0 B (he0.mono (by simp)) (.inl ⟨rfl, by rw [e]⟩)
    rw [e] at this
    exact this hb0
  have hv0 : G0.get H.next = some (.cells 37 [.int .i64 h.1, .int .i64 h.2]) := he.get (by rw [next_new]; omega) (by simp) (get_new_same _ _)
  have hn0 : H.next < G0.next := by have := he.next; rw [next_new] at this; omega
  generalize hvb : H.next = vb at *
  -- the last part: it is put in at its place
  have tail : ∀ (G : AH) (j : Nat), Ext [] G0 G → posL L h = j → (((k : Int) ≤ (j : Int) → K (.bool false) G) ∧ (¬ (k : Int) ≤ (j : Int) →
      outP CC (G.more 1) (w_buildSlice PP 37 1 (G.more 1) [(0, AV.agg [AV.int IntKind.i64 h.fst, AV.int IntKind.i64 h.snd])] (some G.next)) fun v25 H25 =>
        CC.call 62 [s, AV.int IntKind.i64 j, v25] H25 fun v26 H26 =>
          outP CC H26 (stN 1 H26 p (H26.get p) 0 v26) fun _ H29 =>
            outP CC H29 (vO H29 (ldV (H29.get p) 0)) fun v32 H32 =>
              outP CC H32 (vO H32 (ldV (H32.get p) 0)) fun v35 H35 =>
                outP CC H35 (w_len PP 32 H35 v35) fun v36 H36 =>
                  outP CC H36 (vO H36 (ldV (H36.get p) 1)) fun v39 H39 =>
                    outP CC H39 (w_min2 H39 v36 v39) fun v40 H40 =>
                      outP CC H40 (w_slice (SK.sl 2) true false H40 v32 none (some v40) none) fun v41 H41 =>
                        outP CC H41 (stN 1 H41 p (H41.get p) 0 v41) fun _ H44 => K (AV.bool true) H44)) := by
    intro G j heG hpos
    have hj : j ≤ L.length := by have := posL_le L h; omega
    have hnG := heG.next
    have hv := heG.get hn0 (by simp) hv0
    have hg := (he0.trans heG).get hb.lt (by simp) hg
    have hop : OpHits G B s L := hop.mono (he0.trans heG) (by simp)
    refine ⟨fun c => ?_, fun c => ?_⟩
    · have e : putL k L h = (L, false) := by unfold putL; rw [if_neg (by simp [hc]), if_pos (by omega)]
      have := hK G B ((he0.trans heG).mono (by simp)) (.inl ⟨rfl, by rw [e]⟩)
      rw [e] at this
      exact this (hb0.mono heG (by simp) (by simp))
    · have e : putL k L h = ((L.take j ++ h :: L.drop j).take k, true) := by unfold putL; rw [if_neg (by simp [hc]), if_neg (by omega), hpos]
      have x1 : Ext [] G ((G.more 1).put G.next (some (.cells 37 [.int .i64 h.1, .int .i64 h.2]))) := ((Ext.refl _ _).more 1).put (.inl (Nat.le_refl _)) _
      obtain ⟨Bx, hx1, hx2, hopx⟩ : ∃ Bx, (Bx = B ∨ H.next ≤ Bx) ∧ Bx ≠ G.next ∧ OpHits G Bx s L := by
        by_cases q : B = G.next
        · obtain ⟨rfl, rfl⟩ | ⟨o, c, cs, rfl, h1, h2, h0, h3, h4, h5⟩ := hop.ex
          · exact ⟨G.next + 1, .inr (by omega), by omega, ⟨.inl ⟨rfl, rfl⟩⟩⟩
          · omega
        · exact ⟨B, .inl rfl, q, hop⟩
      have hpx : p ∉ [Bx] := by
        have := hb.ne
        simp only [List.mem_singleton]
        rcases hx1 with q | q <;> omega
      simp (disch := first | omega | exact one_int _ _ | exact one_slice _ _ _ _ | exact one_ptr _ | assumption | ((repeat (first | rw [next_new] | rw [AH.next_put] | rw [next_more])) <;> omega) | fail) only [outP_val, 
      
      
      
      bs_one]
      refine OpHits.insert (hopx.mono x1 (by simp)) hj (by omega) (vb := G.next) (x := h) (get_put_same _ _) (by rw [AH.next_put, next_more]; omega) (fun q => hx2 q.symm) _ fun G2 s2 x2 hop2 => ?_
      have hg2 : G2.get p = some (.cells 99 [s, .int .i64 k]) := x2.get (by rw [AH.next_put, next_more]; omega) hpx (x1.get (by omega) (by simp) hg)
      have hp2 : p < G2.next := by have := x2.next; rw [AH.next_put, next_more] at this; omega
      rw [AH.next_put, next_more] at hop2
      generalize hB2 : G.next + 1 + 8 = B2 at hop2
      generalize hL2 : L.take j ++ h :: L.drop j = L2 at *
      have hl2 : L2.length = L.length + 1 := by rw [← hL2, List.length_append, List.length_cons, List.length_take, List.length_drop]; omega
      obtain ⟨f1, f2, f3⟩ := hop2.facts
      have hlen2 := hop2.hs.len
      obtain ⟨s3, c1, hop3⟩ := hop2.cut (min L2.length k) (Nat.min_le_left _ _)
      obtain ⟨f4, f5, f6⟩ := hop3.facts
      have hmin : min ((L2.length : Nat) : Int) (k : Int) = ((min L2.length k : Nat) : Int) := by omega
      simp (disch := first | omega | exact one_int _ _ | exact one_slice _ _ _ _ | exact one_ptr _ | assumption | ((repeat (first | rw [next_new] | rw [AH.next_put] | rw [next_more])) <;> omega) | fail) only [outP_val, outP_skip, get_put_same, ldV_cells, 
      vO_some, List.getElem?_cons_zero, List.getElem?_cons_succ, ob_some, clearA_int, 
      
      w_min2_int, stN_fst, 
      hg2, f2, hlen2, hmin, c1]
      have x3 : Ext [p] G2 ((G2.put p (some (.cells 99 [s2, .int .i64 k]))).put p (some (.cells 99 [s3, .int .i64 k]))) := ((Ext.refl _ _).put (.inr (by simp)) _).put (.inr (by simp)) _
      have e3 : L2.take (min L2.length k) = L2.take k := by
        rcases Nat.le_total L2.length k with q | q
        · rw [Nat.min_eq_left q, List.take_of_length_le (Nat.le_refl _), List.take_of_length_le q]
        · rw [Nat.min_eq_right q]
      rw [e3] at hop3
      have hmm : ∀ b ∈ [p, B, Bx], b < H.next → b ∈ [p, B] := by
        intro b hb hlt
        simp only [List.mem_cons, List.not_mem_nil, or_false] at hb ⊢
        omega
      have xx := ((((he0.trans heG).trans x1).mono (m' := [p, B, Bx]) (by simp)).trans (x2.mono (m' := [p, B, Bx]) (by simp))).trans (x3.mono (m' := [p, B, Bx]) (by simp))
      have := hK _ B2 (xx.mono hmm) (.inr (by omega))
      rw [e] at this
      exact this ⟨⟨s3, get_put_same _ _, hop3.mono x3 (by simp; omega)⟩, by rw [AH.next_put, AH.next_put]; exact hp2, by omega, by rw [List.length_take]; omega⟩
  unfold m_best_Best_Puttt m_best_Best_Putttthb
  refine loopP_rule (I := fun t G => ∃ j : Nat, t = (.ptr (some (p, 0)), .ptr (some (vb, 0)), .int .i64 j) ∧ j ≤ L.length ∧ Ext [] G0 G ∧ ∀ i (hi : i < L.length), i < j → lessB L[i] h = true) (μ := fun t _ => match t.2.2 with | .int _ z => L.length - z.toNat | _ => 0) ?_ ⟨0, rfl, Nat.zero_le _, Ext.refl _ _, fun i hi h => absurd h (by omega)⟩
  rintro t G ⟨j, rfl, hj, heG, hless⟩ rec hrec
  have hg := (he0.trans heG).get hb.lt (by simp) hg
  have hop : OpHits G B s L := hop.mono (he0.trans heG) (by simp)
  have hcl := hop.facts.2.1
  have hnG := heG.next
  have hv := heG.get hn0 (by simp) hv0
  have hpG : p < G.next := by omega
  have hlen := hop.hs.len
  unfold m_best_Best_Putttthbl
  by_cases cj : j < L.length
  · have cd : decide ((j : Int) < (L.length : Int)) = true := by simpa using cj
    obtain ⟨o, h1, h2, h3⟩ := Hs.at hop.hs cj
    simp (disch := first | omega | exact one_int _ _ | exact one_slice _ _ _ _ | exact one_ptr _ | assumption | ((repeat (first | rw [next_new] | rw [AH.next_put] | rw [next_more])) <;> omega) | fail) only [outP_val, outP_enter, w_nil_ptr, w_fieldAddr_ptr, w_load_c, w_load_n, get_more, ldV_cells, 
      ldN_pair, vO_some, Nat.zero_add, Nat.add_zero, List.getElem?_cons_zero, ob_some, 
      w_lss, w_pick_b, w_add, wrap64_in, 
      boolIs_bool, guardP_true, w_store_c, beq_tt, 
      if_true, nat_add, hg, hcl, hlen, cd, h1, h3, hv]
    refine less_wp L[j] h G _ fun G1 he1 => ?_
    simp (disch := first | omega | exact one_int _ _ | exact one_slice _ _ _ _ | exact one_ptr _ | assumption | ((repeat (first | rw [next_new] | rw [AH.next_put] | rw [next_more])) <;> omega) | fail) only [
      
      
      
      condP_bool]
    refine ⟨fun cl => ?_, fun cl => ?_⟩
    · refine hrec _ _ ⟨j + 1, by rfl, by omega, heG.trans he1, fun i hi hij => ?_⟩ ?_
      · rcases Nat.lt_or_ge i j with q | q
        · exact hless i hi q
        · have : i = j := by omega
          subst this; exact cl
      · show L.length - ((j : Int) + 1).toNat < L.length - (j : Int).toNat
        omega
    · have hpG1 := he1.get hpG (by simp) hg
      have hv1 := he1.get (by omega) (by simp) hv
      simp (disch := first | omega | exact one_int _ _ | exact one_slice _ _ _ _ | exact one_ptr _ | assumption | ((repeat (first | rw [next_new] | rw [AH.next_put] | rw [next_more])) <;> omega) | fail) only [outP_val, get_more, ldV_cells, 
      ldN_pair, vO_some, List.getElem?_cons_zero, List.getElem?_cons_succ, ob_some, clearA_int, 
      w_geq, 
      condP_dec, 
      hpG1, hv1, hcl]
      exact tail G1 j (heG.trans he1) (posL_at cj (fun i hi => hless i (by omega) hi) cl)
  · have cd : decide ((j : Int) < (L.length : Int)) = false := by simpa using cj
    simp (disch := first | omega | exact one_int _ _ | exact one_slice _ _ _ _ | exact one_ptr _ | assumption | ((repeat (first | rw [next_new] | rw [AH.next_put] | rw [next_more])) <;> omega) | fail) only [outP_val, outP_enter, w_nil_ptr, w_fieldAddr_ptr, w_load_c, w_load_n, get_more, ldV_cells, 
      ldN_pair, vO_some, Nat.zero_add, Nat.add_zero, List.getElem?_cons_zero, List.getElem?_cons_succ, ob_some, clearA_int, 
      w_lss, w_geq, w_pick_b, w_add, wrap64_in, 
      condP_dec, condP_false, boolIs_bool, guardP_false, w_store_c, beq_tt, 
      if_false, Bool.false_eq_true, nat_add, hg, hcl, hlen, cd, hv]
    exact tail G j heG (by have := posL_all (L := L) (h := h) (fun i hi => hless i hi (by omega)); omega)
theorem put_wp {p B k : Nat} {L : List (Int × Int)} (hb : IsBest H p B k L) (hL : L.length ≤ 500) (h : Int × Int) (K : AV → AH → Prop)
    (hK : ∀ H' B', Ext [p, B] H H' → (B' = B ∨ H.next ≤ B') → IsBest H' p B' k (putL k L h).1 → K (.bool (putL k L h).2) H') : CC.call 21 [.ptr (some (p, 0)), hitA h] H K :=
  put_wp' hb hL h K fun H' B' e q => hK H' B' e (q.imp And.left id)

/-! All. -/
theorem OpHits.own {B : Nat} {s : AV} {L : List (Int × Int)} (h : OpHits H B s L) : Own H 37 2 B s (L.map hitL) := by
  obtain ⟨h1, h2, h3⟩ := Sl.sz h.hs
  refine ⟨?_, h1, h2, h3⟩
  obtain ⟨rfl, rfl⟩ | ⟨o, c, cs, rfl, h1, h2, h0, h3, h4, h5⟩ := h.ex
  · exact .inl ⟨rfl, rfl⟩
  · exact .inr ⟨o, c, false, cs, by rw [List.length_map], h1, by rw [List.length_map]; exact h2, by omega, fun _ => h3, by rw [List.length_map, h4, flat, List.flatMap_def], h5⟩
theorem bs_none : w_buildSlice PP 37 0 H [] none = some (.val (.slice (some (H.next, 0)) 0 0 true) (H.new (.cells 37 []))) := by
  have h1 : Nat.ble (0 * 2) 16777216 = true := rfl
  have h2 : fillA (fun i => some (i * 2, 2)) [] (reps 0 [AV.int IntKind.i64 0, AV.int IntKind.i64 0]) = some [] := rfl
  have h3 : allB (fun x : Nat × AV => allB AV.one x.2.parts) [] = true := rfl
  simp only [w_buildSlice, oBuildSlice, hit_el, h1, h2, h3, br_true, val_mk, ob_some, newSlice, newTo_none_eq]
theorem eq_32n : w_eq PP .eql 32 false true H (.slice none 0 0 true) (.slice none 0 0 true) = some (.val (.bool true) H) := by kernel_rfl
theorem eq_32t (b o : Nat) : w_eq PP .eql 32 false true H (.tail b o) (.slice none 0 0 true) = some (.val (.bool false) H) := by kernel_rfl
theorem eq_32s (b o n c : Nat) (ex : Bool) : w_eq PP .eql 32 false true H (.slice (some (b, o)) n c ex) (.slice none 0 0 true) = some (.val (.bool false) H) := by kernel_rfl
theorem clone_wp {b : Nat} {s : AV} {L : List (Int × Int)} (h : Hs H b s L) (hL : L.length ≤ 1000) (K : AV → AH → Prop)
    (hK : ∀ H' s' B', Ext [] H H' → H.next ≤ B' → Own H' 37 2 B' s' (L.map hitL) → K s' H') : CC.call 63 [s] H K := by
  refine m_slices_Clone_api_Hit_api_Hit_ok _ _ _ ?_
  unfold m_slices_Clone_api_Hit_api_Hit
  have h' := h
  obtain ⟨rfl | ⟨_, _, rfl⟩, hn⟩ | ⟨o, c, ex, rfl, h2, h3⟩ := h.ex
  · simp (disch := first | omega | exact one_int _ _ | exact one_slice _ _ _ _ | exact one_ptr _ | assumption | ((repeat (first | rw [next_new] | rw [AH.next_put] | rw [next_more])) <;> omega) | fail) only [outP_val, 
      condP_true, 
      eq_32n]
    refine hK _ _ H.next (Ext.refl _ _) (Nat.le_refl _) ?_
    rw [hn]; exact Own.nil _ _ _ _
  · simp (disch := first | omega | exact one_int _ _ | exact one_slice _ _ _ _ | exact one_ptr _ | assumption | ((repeat (first | rw [next_new] | rw [AH.next_put] | rw [next_more])) <;> omega) | fail) only [outP_val, 
      condP_false, 
      eq_32t, bs_none]
    have x1 : Ext [] H (H.new (.cells 37 [])) := (Ext.refl _ _).new _
    have o1 : Own (H.new (.cells 37 [])) 37 2 H.next (.slice (some (H.next, 0)) 0 0 true) [] :=
      ⟨.inr ⟨0, 0, true, [], rfl, get_new_same _ _, Nat.le_refl _, by simp, fun q => (by cases q), rfl, by rw [next_new]; omega⟩, by simp, by simp, by simp⟩
    obtain ⟨s', H', B', e1, e2, e3, e4⟩ := o1.append (by_ := 16) (h'.mono x1 (by simp)) (by omega) (by simp only [List.length_nil, List.length_map]; omega)
    refine st e1 (hK _ _ B' (((x1.mono (m' := [H.next]) (by simp)).trans e2).mono fun b hb hlt => ?_) ?_ (by simpa using e4))
    · simp at hb; omega
    · rw [next_new] at e3; omega
  · simp (disch := first | omega | exact one_int _ _ | exact one_slice _ _ _ _ | exact one_ptr _ | assumption | ((repeat (first | rw [next_new] | rw [AH.next_put] | rw [next_more])) <;> omega) | fail) only [outP_val, 
      condP_false, 
      eq_32s, bs_none]
    have x1 : Ext [] H (H.new (.cells 37 [])) := (Ext.refl _ _).new _
    have o1 : Own (H.new (.cells 37 [])) 37 2 H.next (.slice (some (H.next, 0)) 0 0 true) [] :=
      ⟨.inr ⟨0, 0, true, [], rfl, get_new_same _ _, Nat.le_refl _, by simp, fun q => (by cases q), rfl, by rw [next_new]; omega⟩, by simp, by simp, by simp⟩
    obtain ⟨s', H', B', e1, e2, e3, e4⟩ := o1.append (by_ := 16) (h'.mono x1 (by simp)) (by omega) (by simp only [List.length_nil, List.length_map]; omega)
    refine st e1 (hK _ _ B' (((x1.mono (m' := [H.next]) (by simp)).trans e2).mono fun b hb hlt => ?_) ?_ (by simpa using e4))
    · simp at hb; omega
    · rw [next_new] at e3; omega
theorem all_wp {p B k : Nat} {L : List (Int × Int)} (hb : IsBest H p B k L) (hL : L.length ≤ 1000) (K : AV → AH → Prop)
    (hK : ∀ H' s' B', Ext [] H H' → H.next ≤ B' → Own H' 37 2 B' s' (L.map hitL) → K s' H') : CC.call 22 [.ptr (some (p, 0))] H K := by
  refine m_best_Best_All_ok _ _ _ ?_
  unfold m_best_Best_All
  obtain ⟨s, hg, hop⟩ := hb.ex
  have hcl := hop.facts.2.1
  simp (disch := first | omega | exact one_int _ _ | exact one_slice _ _ _ _ | exact one_ptr _ | assumption | ((repeat (first | rw [next_new] | rw [AH.next_put] | rw [next_more])) <;> omega) | fail) only [outP_val, outP_enter, w_nil_ptr, w_fieldAddr_ptr, w_load_c, ldV_cells, 
      vO_some, Nat.add_zero, List.getElem?_cons_zero, ob_some, 
      condP_false, 
      eq_33, hg, hcl]
  exact clone_wp hop.hs hL _ hK
theorem len_wp {p B k : Nat} {L : List (Int × Int)} (hb : IsBest H p B k L) (K : AV → AH → Prop) (hK : K (.int .i64 L.length) H) : CC.call 24 [.ptr (some (p, 0))] H K := by
  refine m_best_Best_Len_ok _ _ _ ?_
  unfold m_best_Best_Len
  obtain ⟨s, hg, hop⟩ := hb.ex
  have hcl := hop.facts.2.1
  have hlen := hop.hs.len
  simp (disch := first | omega | exact one_int _ _ | exact one_slice _ _ _ _ | exact one_ptr _ | assumption | ((repeat (first | rw [next_new] | rw [AH.next_put] | rw [next_more])) <;> omega) | fail) only [outP_val, w_nil_ptr, w_fieldAddr_ptr, w_load_c, ldV_cells, 
      vO_some, Nat.add_zero, List.getElem?_cons_zero, ob_some, 
      condP_false, 
      eq_33, hg, hcl, hlen]
  exact hK

/-! Of. -/
def bestL (k : Nat) (L : List (Int × Int)) : List (Int × Int) := L.foldl (fun a h => (putL k a h).1) []
theorem putL_len1 (k : Nat) (L : List (Int × Int)) (h : Int × Int) : (putL k L h).1.length ≤ L.length + 1 := by
  unfold putL
  split
  · simp
  · split
    · simp
    · rw [List.length_take, List.length_append, List.length_cons, List.length_take, List.length_drop]; have := posL_le L h; omega
theorem bestL_snoc (k : Nat) (L : List (Int × Int)) (h : Int × Int) : bestL k (L ++ [h]) = (putL k (bestL k L) h).1 := by
  rw [bestL, List.foldl_append]; rfl
theorem foldl_len (k : Nat) : ∀ (L A : List (Int × Int)), (L.foldl (fun a h => (putL k a h).1) A).length ≤ A.length + L.length
  | [], A => by simp
  | h :: L, A => by
    have := foldl_len k L (putL k A h).1
    have := putL_len1 k A h
    rw [List.foldl_cons, List.length_cons]; omega
theorem bestL_len (k : Nat) (L : List (Int × Int)) : (bestL k L).length ≤ L.length := by have := foldl_len k L []; rw [List.length_nil, Nat.zero_add] at this; exact this

theorem of_wp {b : Nat} {s : AV} {L : List (Int × Int)} (hs : Hs H b s L) (hL : L.length ≤ 400) (k : Int) (K : AV → AH → Prop)
    (hK : ∀ H' s' B', Ext [] H H' → H.next ≤ B' → Own H' 37 2 B' s' ((bestL k.toNat L).map hitL) → K s' H') : CC.call 25 [.int .i64 k, s] H K := by
  refine m_best_Of_ok _ _ _ _ ?_
  unfold m_best_Of m_best_Oft
  rw [outP_enter]
  refine new_wp k _ fun G0 e0 hb0 => ?_
  unfold m_best_Oftth m_best_Oftthtb
  rw [hs.len, outP_val]
  have hp0 := hb0.lt
  generalize hp : H.next = p at *
  refine loopP_rule (I := fun t G => ∃ j B : Nat, t = (.ptr (some (p, 0)), s, .int .i64 L.length, .int .i64 j) ∧ j ≤ L.length ∧ Ext [] H G ∧ p < B ∧ IsBest G p B k.toNat (bestL k.toNat (L.take j))) (μ := fun t _ => match t.2.2.2 with | .int _ z => L.length - z.toNat | _ => 0) ?_ ⟨0, p + 1, rfl, Nat.zero_le _, e0, by omega, by simpa [bestL] using hb0⟩
  rintro t G ⟨j, B, rfl, hj, e1, hB, hbj⟩ rec hrec
  unfold m_best_Oftthtbl
  have hlt := hbj.lt
  simp (disch := first | omega | exact one_int _ _ | exact one_slice _ _ _ _ | exact one_ptr _ | assumption | ((repeat (first | rw [next_new] | rw [AH.next_put] | rw [next_more])) <;> omega) | fail) only [outP_val, outP_enter, w_load_n, get_new_eq, 
      w_lss, w_add, wrap64_in, 
      condP_dec, w_alloc_none, w_store_c 
      ]
  refine ⟨fun c => ?_, fun c => ?_⟩
  · have cj : j < L.length := by omega
    obtain ⟨o, h1, h2, h3⟩ := Hs.at (Sl.mono hs e1 (by simp)) cj
    have x1 : Ext [] G ((G.new (.cells 37 [.int .i64 0, .int .i64 0])).put G.next (some (.cells 37 (hitL L[j])))) := ((Ext.refl _ _).new _).put (.inl (Nat.le_refl _)) _
    unfold hitA hitL at h3
    unfold hitL at x1
    simp (disch := first | omega | exact one_int _ _ | exact one_slice _ _ _ _ | exact one_ptr _ | assumption | ((repeat (first | rw [next_new] | rw [AH.next_put] | rw [next_more])) <;> omega) | fail) only [outP_val, outP_skip, w_load_n, get_put_same, 
      ldN_pair, vO_some, 
      stN_two, 
      h1, h3]
    refine put_wp (hbj.mono x1 (by simp) (by simp)) ?_ L[j] _ fun G2 B2 e2 hB2 hb2 => ?_
    · have := bestL_len k.toNat (L.take j); rw [List.length_take] at this; omega
    refine hrec _ _ ⟨j + 1, B2, by rfl, by omega, ?_, ?_, ?_⟩ ?_
    · refine (((e1.trans x1).mono (m' := [p, B]) (by simp)).trans e2).mono fun b hb hlt => ?_
      simp at hb; omega
    · rw [AH.next_put, next_new] at hB2; omega
    · rw [List.take_succ_eq_append_getElem cj, bestL_snoc]; exact hb2
    · show L.length - ((j : Int) + 1).toNat < L.length - (j : Int).toNat
      omega
  · have : j = L.length := by omega
    subst this
    rw [List.take_length] at hbj
    refine all_wp hbj (by have := bestL_len k.toNat L; omega) _ fun G2 s' B' e2 hB' ho => hK _ _ _ (e1.trans e2) (by have := e1.next; omega) ho
end
end Go.Ab
