/- Slices of vectors: which ones may be, without those that may not. -/
import Derived.Test.YtbahknfffhijlaaGreatDoorVecsA
import Derived.Test.YtbahknfffhijlaaGreatDoorMQm
import Derived.Test.YtbahknfffhijlaaGreatDoorMMid
namespace Go.Ab
noncomputable section
open Go.Proofs
set_option maxRecDepth 10000
variable {H H' : AH}

theorem bs_vnone : w_buildSlice PP 49 0 H [] none = some (.val (.slice (some (H.next, 0)) 0 0 true) (H.new (.cells 49 []))) := by
  have h1 : Nat.ble (0 * 1) 16777216 = true := rfl
  have h2 : fillA (fun i => some (i * 1, 1)) [] (reps 0 [AV.slice none 0 0 true]) = some [] := rfl
  have h3 : allB (fun x : Nat × AV => allB AV.one x.2.parts) [] = true := rfl
  simp only [w_buildSlice, oBuildSlice, vec_el, h1, h2, h3, br_true, val_mk, ob_some, newSlice, newTo_none_eq]
theorem eq_vn : w_eq PP .eql 58 false true H (.slice none 0 0 true) (.slice none 0 0 true) = some (.val (.bool true) H) := by kernel_rfl
theorem eq_vt (b o : Nat) : w_eq PP .eql 58 false true H (.tail b o) (.slice none 0 0 true) = some (.val (.bool false) H) := by kernel_rfl
theorem eq_vs (b o n c : Nat) (ex : Bool) : w_eq PP .eql 58 false true H (.slice (some (b, o)) n c ex) (.slice none 0 0 true) = some (.val (.bool false) H) := by kernel_rfl
theorem vclone_wp {b : Nat} {s : AV} {Y : List Vq} (h : Sl H 1 b s (vrow Y)) (hL : Y.length ≤ 1000) (K : AV → AH → Prop)
    (hK : ∀ H' s' B', Ext [] H H' → H.next ≤ B' → Own H' 49 1 B' s' (vrow Y) → K s' H') : CC.call 39 [s] H K := by
  refine m_slices_Clone_api_Vec_api_Vec_ok _ _ _ ?_
  unfold m_slices_Clone_api_Vec_api_Vec
  have go : outP CC H (w_buildSlice PP 49 0 H [] none) (fun v2 H2 => outP CC H2 (w_append 49 1 24 H2 v2 s none) fun v3 H3 => K v3 H3) := by
    rw [bs_vnone, outP_val]
    have x1 : Ext [] H (H.new (.cells 49 [])) := (Ext.refl _ _).new _
    have o1 : Own (H.new (.cells 49 [])) 49 1 H.next (.slice (some (H.next, 0)) 0 0 true) [] :=
      ⟨.inr ⟨0, 0, true, [], rfl, get_new_same _ _, Nat.le_refl _, by simp, fun q => (by cases q), rfl, by rw [next_new]; omega⟩, by simp, by simp, by simp⟩
    obtain ⟨s', H', B', e1, e2, e3, e4⟩ := o1.append (by_ := 24) (h.mono x1 (by simp)) (by omega) (by simp only [List.length_nil, List.length_map]; omega)
    refine st e1 (hK _ _ B' (((x1.mono (m' := [H.next]) (by simp)).trans e2).mono fun b hb hlt => ?_) ?_ (by simpa using e4))
    · simp at hb; omega
    · rw [next_new] at e3; omega
  obtain ⟨rfl | ⟨_, _, rfl⟩, hn⟩ | ⟨o, c, ex, rfl, h2, h3⟩ := h.ex
  · rw [eq_vn, outP_val, condP_true]
    refine hK _ _ H.next (Ext.refl _ _) (Nat.le_refl _) ?_
    rw [hn]; exact Own.nil _ _ _ _
  · rw [eq_vt, outP_val, condP_false]; exact go
  · rw [eq_vs, outP_val, condP_false]; exact go

/-- The tail of an own slice is cleared. -/
theorem Own.clearFrom {e t : TypeId} {sz B : Nat} {s : AV} {X : List (List AV)} {z : List AV} (h : Own H e sz B s X) (ht : PP.underlying t = some (.slice e)) (he : elT PP e = some (sz, z)) (hs : 0 < sz) (hz : z.length = sz) (hk : z.all AV.known = true) (h1 : z.all AV.one = true) {i : Nat} (hi : i ≤ X.length) :
    ∃ s3 H', (∀ G : AH, w_slice (.sl sz) false false G s (some (.int .i64 i)) none none = some (.val s3 G)) ∧ w_clear PP t H s3 = some (.val (.tup []) H') ∧ Ext [B] H H' ∧ Own H' e sz B s (X.take i ++ List.replicate (X.length - i) z) := by
  have clr1 : ∀ n c ex, w_clear PP t H (.slice none n c ex) = some (.val (.tup []) H) := fun _ _ _ => by simp only [w_clear, clearF, ht, he, ob2_some, oArgs1, val_mk]
  have clr2 : ∀ b o n c ex, w_clear PP t H (.slice (some (b, o)) n c ex) = ob (writeA H b o (reps n z)) fun H' => some (.val (.tup []) H') := fun _ _ _ _ _ => by simp only [w_clear, clearF, ht, he, ob2_some, oArgs1, val_mk]
  have clr3 : ∀ b o, w_clear PP t H (.tail b o) = some (.val (.tup []) H) := fun _ _ => by simp only [w_clear, clearF, ht, he, ob2_some, oArgs1, val_mk]
  have hlT : (X.take i ++ List.replicate (X.length - i) z).length = X.length := by rw [List.length_append, List.length_take, List.length_replicate]; omega
  have p1 : ∀ x ∈ X.take i ++ List.replicate (X.length - i) z, x ∈ X ∨ x = z := fun x hx => by
    rcases List.mem_append.1 hx with q | q
    · exact .inl (List.mem_of_mem_take q)
    · exact .inr (List.mem_replicate.1 q).2
  have q1 : ∀ x ∈ X.take i ++ List.replicate (X.length - i) z, x.length = sz := fun x hx => (p1 x hx).elim (h.szs x) fun q => by rw [q]; exact hz
  have q2 : ∀ x ∈ X.take i ++ List.replicate (X.length - i) z, x.all AV.known = true := fun x hx => (p1 x hx).elim (h.known x) fun q => by rw [q]; exact hk
  have q3 : ∀ x ∈ X.take i ++ List.replicate (X.length - i) z, x.all AV.one = true := fun x hx => (p1 x hx).elim (h.one x) fun q => by rw [q]; exact h1
  have e0 : ∀ c, bndO c c none = some c := fun _ => rfl
  obtain ⟨rfl, rfl⟩ | ⟨o, c, ex, cs, rfl, a1, a2, a3, a4, a5, a6⟩ := h.ex
  · obtain rfl : i = 0 := by simpa using hi
    exact ⟨.slice none 0 0 true, H, fun _ => rfl, clr1 _ _ _, Ext.refl _ _, ⟨.inl ⟨rfl, rfl⟩, q1, q2, q3⟩⟩
  · have same : i = X.length → X.take i ++ List.replicate (X.length - i) z = X := fun q => by rw [q, Nat.sub_self, List.take_length]; simp
    have write : ∀ (p : Nat) (ex' : Bool) (c' : Nat), (i < X.length → p = o + i * sz) → ∃ H', w_clear PP t H (.slice (some (B, p)) (X.length - i) c' ex') = some (.val (.tup []) H') ∧ Ext [B] H H' ∧ Own H' e sz B (.slice (some (B, o)) X.length c ex) (X.take i ++ List.replicate (X.length - i) z) := by
      intro p ex' c' hp
      by_cases q : i = X.length
      · refine ⟨H, ?_, Ext.refl _ _, by rw [same q]; exact h⟩
        rw [clr2, q, Nat.sub_self, reps_flatten hz]; rfl
      · have hp := hp (by omega)
        subst hp
        have hzl : ∀ x ∈ List.replicate (X.length - i) z, x.length = sz := fun x hx => by rw [(List.mem_replicate.1 hx).2]; exact hz
        have hfl := flatten_len hzl
        rw [List.length_replicate] at hfl
        have hmul : i * sz + (X.length - i) * sz = X.length * sz := by rw [← Nat.add_mul]; congr 1; omega
        have hcl := Nat.mul_le_mul_right sz a2
        have hpos : 0 < (X.length - i) * sz := Nat.mul_pos (by omega) hs
        have hne : (List.replicate (X.length - i) z).flatten ≠ [] := fun r => by rw [r] at hfl; simp at hfl; omega
        have hw := writeA_eq (o := o + i * sz) a1 hne (by rw [hfl]; omega)
        refine ⟨H.put B (some (.cells e (cs.take (o + i * sz) ++ ((List.replicate (X.length - i) z).flatten ++ cs.drop (o + i * sz + (List.replicate (X.length - i) z).flatten.length))))), ?_, (Ext.refl _ _).put (.inr (by simp)) _, ⟨.inr ⟨o, c, ex, _, by rw [hlT], get_put_same _ _, by rw [hlT]; exact a2, ?_, fun r => ?_, ?_, by rw [AH.next_put]; exact a6⟩, q1, q2, q3⟩⟩
        · rw [clr2, reps_flatten hz, hw, ob_some]
        · rw [splice_length _ _ _ (by rw [hfl]; omega)]; exact a3
        · rw [splice_length _ _ _ (by rw [hfl]; omega)]; exact a4 r
        · have hX := flatten_len h.szs
          have hXi : (X.take i).flatten.length = i * sz := by rw [flatten_len fun y hy => h.szs y (List.mem_of_mem_take hy), List.length_take, Nat.min_eq_left hi]
          refine seg_eq (by rw [flatten_len q1, hlT]) fun t ht => ?_
          rw [hlT] at ht
          rw [splice_get _ _ _ _ (by rw [hfl]; omega), List.flatten_append]
          by_cases r : t < i * sz
          · rw [if_pos (by omega), List.getElem?_append_left (by omega), ← flatten_take h.szs, List.getElem?_take, if_pos r, ← a5, List.getElem?_take, if_pos (by omega), List.getElem?_drop]
          · rw [if_neg (by omega), if_pos (by rw [hfl]; omega), List.getElem?_append_right (by omega), hXi]
            congr 1; omega
    have e2 : bndO 0 X.length (some (.int .i64 i)) = some i := bndA_of .i64 hi
    have e1 : bndO X.length c none = some X.length := rfl
    cases ex with
    | true =>
      obtain ⟨H', w1, w2, w3⟩ := write (if c = i then o else o + i * sz) true (c - i) (fun q => if_neg (by omega))
      refine ⟨_, H', fun G => ?_, w1, w2, w3⟩
      exact w_slice_ex (H := G) (sz := sz) (b := B) (o := o) (n := X.length) (c := c) (hasHi := false) (some (.i64, i)) none hi a2
    | false =>
      by_cases q : i < c
      · obtain ⟨H', w1, w2, w3⟩ := write (o + i * sz) false (c - i) (fun _ => rfl)
        exact ⟨_, H', fun G => w_slice_op (H := G) (sz := sz) (b := B) (o := o) (n := X.length) (c := c) (hasHi := false) (some (.i64, i)) none hi a2 q, w1, w2, w3⟩
      · refine ⟨.tail B (o + i * sz), H, fun G => ?_, clr3 _ _, Ext.refl _ _, by rw [same (by omega)]; exact h⟩
        have c1 : Nat.beq c i = true := by simp; omega
        have c2 : Nat.beq X.length i = true := by simp; omega
        simp only [w_slice, sliceA, Bool.false_and, br_false, val_mk, bndsTo, e0, ob_some, e1, e2, Bool.or_false, c1, c2, br_true]
        rfl

/-! Those that may not be go. -/
theorem mk1_wp {b p : Nat} {s : AV} {V : List Int} {dim : Int} (h : Is .i32 H b s V) (hp : H.get p = some (.cells 3 [.int .i64 dim])) (K : AV → AH → Prop) (hK : K (.bool (!mayB V dim)) H) : CC.call 40 [s, .ptr (some (p, 0))] H K := by
  refine m_quant_Make_1_ok _ _ _ _ ?_
  unfold m_quant_Make_1
  rw [w_load_c, hp, ldV_cells, show ([.int .i64 dim] : List AV)[0]? = some (.int .i64 dim) from rfl, ob_some, clearA_int, vO_some, outP_val, outP_enter]
  refine may_wp h dim _ ?_
  rw [w_not, outP_val]; exact hK
abbrev mkFn (p : Nat) : AV := .fn (.func 40) [] [.ptr (some (p, 0))]
theorem idx_del {b p : Nat} {s : AV} {Y : List Vq} {dim : Int} (h : Sl H 1 b s (vrow Y)) (hL : Y.length ≤ 1000000) (hy : ∀ y ∈ Y, VEl H y) (hp : H.get p = some (.cells 3 [.int .i64 dim])) (K : AV → AH → Prop)
    (hK1 : (∀ y ∈ Y, mayB y.2.2 dim = true) → K (.int .i64 (-1)) H) (hK2 : ∀ j (hj : j < Y.length), (∀ y ∈ Y.take j, mayB y.2.2 dim = true) → mayB Y[j].2.2 dim = false → K (.int .i64 j) H) : CC.call 60 [s, mkFn p] H K := by
  refine m_slices_IndexFunc_api_Vec_api_Vec_ok _ _ _ _ ?_
  unfold m_slices_IndexFunc_api_Vec_api_Vec m_slices_IndexFunc_api_Vec_api_Vecth
  rw [vrow_len h, outP_val]
  unfold m_slices_IndexFunc_api_Vec_api_Vecthtb
  refine loopP_rule (I := fun t G => ∃ j : Nat, t = (s, mkFn p, .int .i64 Y.length, .int .i64 j) ∧ j ≤ Y.length ∧ G = H ∧ ∀ y ∈ Y.take j, mayB y.2.2 dim = true) (μ := fun t _ => match t.2.2.2 with | .int _ z => Y.length - z.toNat | _ => 0) ?_ ⟨0, rfl, Nat.zero_le _, rfl, fun x hx => by simp at hx⟩
  rintro t G ⟨j, rfl, hj, rfl, hno⟩ rec hrec
  unfold m_slices_IndexFunc_api_Vec_api_Vecthtbl
  rw [w_lss, outP_val]
  by_cases cj : j < Y.length
  · obtain ⟨o, a1, a2, a3⟩ := vrow_at h cj
    rw [decide_eq_true (by omega), condP_true, a1, outP_val, w_load_c, a3, vO_some, outP_val]
    show CC.call 40 [Y[j].1, .ptr (some (p, 0))] G _
    refine mk1_wp (hy _ (List.getElem_mem cj)).is hp _ ?_
    cases c : mayB Y[j].2.2 dim with
    | false => rw [Bool.not_false, condP_true]; exact hK2 j cj hno c
    | true =>
      rw [Bool.not_true, condP_false, w_add_in (by omega) (by omega), outP_val]
      refine hrec _ _ ⟨j + 1, by rfl, by omega, rfl, fun x hx => ?_⟩ ?_
      · rw [List.take_succ_eq_append_getElem cj, List.mem_append] at hx
        rcases hx with hx | hx
        · exact hno x hx
        · simp at hx; subst hx; exact c
      · show Y.length - ((j : Int) + 1).toNat < Y.length - (j : Int).toNat
        omega
  · rw [decide_eq_false (by omega), condP_false]
    exact hK1 fun y hy => hno y (by rw [List.take_of_length_le (by omega)]; exact hy)
def goodV (Y : List Vq) (dim : Int) : List Vq := Y.filter fun y => mayB y.2.2 dim
theorem goodV_snoc (Y : List Vq) (dim : Int) (j : Nat) (hj : j < Y.length) : goodV (Y.take (j + 1)) dim = goodV (Y.take j) dim ++ (if mayB Y[j].2.2 dim = true then [Y[j]] else []) := by
  unfold goodV
  rw [List.take_succ_eq_append_getElem hj, List.filter_append]
  congr 1
  cases h : mayB Y[j].2.2 dim <;> simp [h]
theorem goodV_all {Y : List Vq} {dim : Int} (h : ∀ y ∈ Y, mayB y.2.2 dim = true) : goodV Y dim = Y := List.filter_eq_self.2 h
theorem drop_succ' {α : Type} {X Z : List α} {j : Nat} (h : X.drop j = Z.drop j) : X.drop (j + 1) = Z.drop (j + 1) := by
  have := congrArg (List.drop 1) h
  rwa [List.drop_drop, List.drop_drop] at this
theorem del_wp {B p : Nat} {s : AV} {Y : List Vq} {dim : Int} (h : Own H 49 1 B s (vrow Y)) (hL : Y.length ≤ 1000000) (hy : ∀ y ∈ Y, VEl H y) (hyB : ∀ y ∈ Y, y.2.1 = B → y.2.2 = []) (hp : H.get p = some (.cells 3 [.int .i64 dim])) (hpn : p < H.next) (hpB : p ≠ B) (K : AV → AH → Prop)
    (hK : ∀ H' s', Ext [B] H H' → Sl H' 1 B s' (vrow (goodV Y dim)) → K s' H') : CC.call 38 [s, mkFn p] H K := by
  refine m_slices_DeleteFunc_api_Vec_api_Vec_ok _ _ _ _ ?_
  unfold m_slices_DeleteFunc_api_Vec_api_Vec m_slices_DeleteFunc_api_Vec_api_Vect
  rw [outP_enter]
  refine idx_del h.sl hL hy hp _ (fun hall => ?_) fun i hi hno hnot => ?_
  · unfold m_slices_DeleteFunc_api_Vec_api_Vectt
    rw [w_eql, outP_val, decide_eq_true rfl, condP_true]
    refine hK _ _ (Ext.refl _ _) ?_
    rw [goodV_all hall]; exact h.sl
  · unfold m_slices_DeleteFunc_api_Vec_api_Vectt
    rw [w_eql, outP_val, decide_eq_false (by omega), condP_false]
    unfold m_slices_DeleteFunc_api_Vec_api_Vecttth
    rw [w_add_in (by omega) (by omega), outP_val]
    unfold m_slices_DeleteFunc_api_Vec_api_Vecttthtb
    have hti : goodV (Y.take (i + 1)) dim = Y.take i := by rw [goodV_snoc _ _ _ hi, goodV_all hno, hnot]; simp
    refine loopP_rule (I := fun t G => ∃ (k j : Nat) (X : List (List AV)), t = (s, mkFn p, .int .i64 k, .int .i64 j) ∧ j ≤ Y.length ∧ k < j ∧ Ext [B] H G ∧ Own G 49 1 B s X ∧ X.length = Y.length ∧ k = (goodV (Y.take j) dim).length ∧ X.take k = vrow (goodV (Y.take j) dim) ∧ X.drop j = (vrow Y).drop j)
      (μ := fun t _ => match t.2.2.2 with | .int _ z => Y.length - z.toNat | _ => 0) ?_ ⟨i, i + 1, vrow Y, by rfl, by omega, by omega, Ext.refl _ _, h, by simp, by rw [hti, List.length_take]; omega, by rw [hti]; exact List.map_take.symm, rfl⟩
    rintro t G ⟨k, j, X, rfl, hj, hkj, x1, o1, hX, hk, hXk, hXj⟩ rec hrec
    unfold m_slices_DeleteFunc_api_Vec_api_Vecttthtbl
    have hlen : w_len PP 58 G s = some (.val (.int .i64 Y.length) G) := by rw [← hX]; exact Sl.len (P := PP) o1.sl vecs_sl G
    rw [hlen, outP_val, w_lss, outP_val]
    by_cases cj : j < Y.length
    · rw [decide_eq_true (by omega), condP_true]
      unfold m_slices_DeleteFunc_api_Vec_api_Vecttthtblt
      have hXjj : X[j]'(by omega) = [Y[j].1] := by
        have e1 : X[j]? = (X.drop j)[0]? := by rw [List.getElem?_drop]; rfl
        have e2 : (X.drop j)[0]? = some [Y[j].1] := by rw [hXj, List.getElem?_drop, Nat.add_zero, List.getElem?_map, List.getElem?_eq_getElem cj]; rfl
        rw [List.getElem?_eq_getElem (by omega)] at e1
        exact Option.some.inj (e1.trans e2)
      obtain ⟨q, a1, a2, a3⟩ := Sl.at o1.sl (j := j) (by omega) .i64
      obtain ⟨_, kn, on⟩ := Sl.elt o1.sl (j := j) (by omega)
      rw [hXjj] at a3 kn on
      have a3' := a3 0 _ rfl
      rw [Nat.add_zero] at a3'
      have kn1 : Y[j].1.known = true := by simpa using kn
      have on1 : Y[j].1.one = true := by simpa using on
      have hy1 : VEl G Y[j] := (hy _ (List.getElem_mem cj)).mono x1 (fun r => hyB _ (List.getElem_mem cj) (by simpa using r))
      have hp1 : G.get p = _ := x1.get hpn (by simp; exact hpB) hp
      rw [a1, outP_val, w_load_c, ldV_of a3' kn1 on1, vO_some, outP_val]
      show CC.call 40 [Y[j].1, .ptr (some (p, 0))] G _
      refine mk1_wp hy1.is hp1 _ ?_
      rw [w_not, outP_val, Bool.not_not]
      have hs := goodV_snoc Y dim j cj
      cases c : mayB Y[j].2.2 dim with
      | true =>
        rw [condP_true]
        rw [c, if_pos rfl] at hs
        obtain ⟨r, b1, b2, b3, b4⟩ := o1.at (j := k) (by omega) .i64
        have hk1 : (X[k]'(by omega)).length = 1 := o1.szs _ (List.getElem_mem _)
        have hparts : Y[j].1.parts = [Y[j].1] := (hy1.is.facts).2.2.1
        obtain ⟨G2, c1, c2, c3, c4, c5⟩ := b4 [Y[j].1] rfl (by simp [kn1]) (by simp [on1]) 1 0 Y[j].1 (by rw [hparts]; rfl) (by rw [hparts]; simp) (by omega) (by rw [hparts, show (X[k]'(by omega)).drop (0 + 1) = [] from List.drop_eq_nil_of_le (by omega)]; rfl)
        rw [b1, outP_val, w_store_c]
        rw [Nat.add_zero] at c1
        rw [c1, outP_skip, w_add_in (by omega) (by omega), outP_val]
        unfold m_slices_DeleteFunc_api_Vec_api_Vecttthtbltt
        rw [w_add_in (by omega) (by omega), outP_val]
        refine hrec _ _ ⟨k + 1, j + 1, X.set k [Y[j].1], by rfl, by omega, by omega, x1.trans c2, c5, by rw [List.length_set]; exact hX, by rw [hs, List.length_append, ← hk]; rfl, ?_, ?_⟩ ?_
        · have e : (X.set k [Y[j].1]).take (k + 1) = X.take k ++ [[Y[j].1]] := by
            rw [List.take_succ_eq_append_getElem (by rw [List.length_set]; omega), List.getElem_set_self, List.take_set_of_le (Nat.le_refl _)]
          rw [e, hXk, hs]; simp
        · rw [List.drop_set_of_lt (by omega)]; exact drop_succ' hXj
        · show Y.length - ((j : Int) + 1).toNat < Y.length - (j : Int).toNat
          omega
      | false =>
        rw [condP_false]
        rw [c, if_neg (by simp), List.append_nil] at hs
        unfold m_slices_DeleteFunc_api_Vec_api_Vecttthtbltt
        rw [w_add_in (by omega) (by omega), outP_val]
        refine hrec _ _ ⟨k, j + 1, X, by rfl, by omega, by omega, x1, o1, hX, by rw [hs]; exact hk, by rw [hs]; exact hXk, drop_succ' hXj⟩ ?_
        show Y.length - ((j : Int) + 1).toNat < Y.length - (j : Int).toNat
        omega
    · rw [decide_eq_false (by omega), condP_false]
      obtain ⟨s3, G2, b1, b2, b3, b4⟩ := o1.clearFrom vecs_sl vec_el (by omega) rfl rfl rfl (i := k) (by omega)
      rw [b1, outP_val, b2, outP_val]
      obtain ⟨s5, c1, c2⟩ := Sl.cut b4.sl (hasHi := true) none (some (.i64, k)) (Nat.zero_le _) (show k ≤ (X.take k ++ List.replicate (X.length - k) [AV.slice none 0 0 true]).length by rw [List.length_append, List.length_take, List.length_replicate]; omega)
      refine st (c1 _) (hK _ _ (x1.trans b3) ?_)
      have e : (List.drop (loN 0 none) (X.take k ++ List.replicate (X.length - k) [AV.slice none 0 0 true])).take (loN (X.take k ++ List.replicate (X.length - k) [AV.slice none 0 0 true]).length (some (.i64, k)) - loN 0 none) = vrow (goodV Y dim) := by
        show (List.drop 0 _).take (k - 0) = _
        rw [List.drop_zero, Nat.sub_zero, List.take_append_of_le_length (by rw [List.length_take]; omega), List.take_take, Nat.min_self, hXk, List.take_of_length_le (show Y.length ≤ j by omega)]
      rw [e] at c2; exact c2
end
end Go.Ab
