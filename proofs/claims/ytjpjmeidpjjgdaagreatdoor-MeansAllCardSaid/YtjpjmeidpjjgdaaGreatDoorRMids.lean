/- The document's middles. -/
import Derived.Test.YtjpjmeidpjjgdaaGreatDoorRNear
namespace Go.Ab
noncomputable section
open Go.Proofs
set_option maxRecDepth 10000
variable {H H' : AH}

theorem i64_slR : PP.underlying 93 = some (.slice 2) := by kernel_rfl
theorem i64_elR : elT PP 2 = some (1, [.int .i64 0]) := by kernel_rfl
theorem i64_byR : byOf PP 2 = some 8 := by kernel_rfl
theorem int_byR : byOf PP 3 = some 8 := by kernel_rfl
theorem ints_slR : PP.underlying 33 = some (.slice 3) := by kernel_rfl
theorem rset (f : Nat → Int) (d j : Nat) (x : Int) : ((List.range d).map f).set j x = (List.range d).map fun i => if i = j then x else f i := by
  refine List.ext_getElem (by simp) fun i h1 h2 => ?_
  rw [List.getElem_set]
  simp only [List.getElem_map, List.getElem_range]
  by_cases c : j = i
  · subst c; simp
  · rw [if_neg c, if_neg (fun q => c q.symm)]
theorem rget (f : Nat → Int) (d j : Nat) (h : j < ((List.range d).map f).length) : ((List.range d).map f)[j] = f j := by simp
theorem ext_ld {m : List Nat} (x : Ext m H H') {b : Nat} (hb : b < H.next) (hm : b ∉ m) {p : Nat} {v : AV} (h : ldV (H.get b) p = some v) : ldV (H'.get b) p = some v := by
  cases q : H.get b with
  | none => rw [q] at h; cases h
  | some y => rw [x.get hb hm q, ← q]; exact h
/-- One vector is put to the sums. -/
theorem rsum_wp {bv Bs : Nat} {v ss : AV} {V : List Int} {d i len k : Nat} {many : Int} {f : Nat → Int} {K : AV → AH → Prop} {r0 : AV × AV × AV × AV → AH → Prop} {r1 : AV × AV × AV × AV × AV × AV × AV → AH → Prop} {r2 : AV × AV × AV × AV × AV × AV × AV × AV × AV × AV × AV × AV → AH → Prop} {x1 x2 x7 x11 x12 x90 x91 : AV} {p bs : Nat}
    (hd : d ≤ 1000) (hi : i ≤ 1000) (h2 : ∀ G : AH, w_indexAddr (.sl 1) G x2 (.int .i64 i) = some (.val (.ptr (some (bs, p))) G)) (h3 : ∀ {G : AH}, Ext [Bs] H G → ldV (G.get bs) p = some v) (hv : Is .i32 H bv v V) (hvB : bv ≠ Bs) (hV : In32 V) (o : Os 2 .i64 H Bs ss ((List.range d).map f)) (hf : ∀ j, -4611686018427387904 ≤ f j ∧ f j ≤ 4611686018427387904)
    (hK : ∀ H', Ext [Bs] H H' → Os 2 .i64 H' Bs ss ((List.range d).map fun j => f j + V.getD j 0) → r2 (x1, x2, x7, x11, x12, .int .i64 k, .int .i64 many, ss, x90, x91, .int .i64 len, .int .i64 ((i : Int) + 1)) H') :
    m_fieldfareref1_Middlestttthtblthbtttbltthbttthtbltthbttt K r0 r1 r2 x1 x2 x7 x11 x12 (.int .i64 k) (.int .i64 many) ss (.int .i64 i) x90 x91 (.int .i64 len) (.int .i64 i) H := by
  unfold m_fieldfareref1_Middlestttthtblthbtttbltthbttthtbltthbttt m_fieldfareref1_Middlestttthtblthbtttbltthbttthtbltthbttttb
  refine loopP_rule (I := fun t G => ∃ j : Nat, t = (x1, x2, x7, x11, x12, .int .i64 k, .int .i64 many, ss, .int .i64 i, .int .i64 j, x90, x91, .int .i64 len, .int .i64 i) ∧ j ≤ min d V.length ∧ Ext [Bs] H G ∧ Os 2 .i64 G Bs ss ((List.range d).map fun u => if u < j then f u + V.getD u 0 else f u))
    (μ := fun t _ => match t.2.2.2.2.2.2.2.2.2.1 with | .int _ z => d - z.toNat | _ => 0) ?_ ⟨0, by rfl, Nat.zero_le _, Ext.refl _ _, by simpa using o⟩
  rintro t G ⟨j, rfl, hj, x, og⟩ rec hrec
  unfold m_fieldfareref1_Middlestttthtblthbtttbltthbttthtbltthbttttbl
  dsimp only
  have ls := og.is.len i64_slR
  rw [List.length_map, List.length_range] at ls
  have hvG : Is .i32 G bv v V := Sl.mono hv x (by simp; exact hvB)
  rw [ls, outP_val, h2, outP_val, w_load_c, h3 x, vO_some, outP_val, hvG.len vec_sl, outP_val, w_min2_int, outP_val, w_lss, outP_val]
  by_cases c : j < min d V.length
  · have cd : j < d := by omega
    have cV : j < V.length := by omega
    obtain ⟨q1, a1, _, a3⟩ := hvG.at cV
    obtain ⟨q2, b1, _, b3, b4⟩ := og.at (j := j) (by simp; exact cd)
    rw [rget, if_neg (Nat.lt_irrefl j)] at b3
    obtain ⟨G2, c1, c2, c3, c4⟩ := b4 (f j + V.getD j 0)
    have hx := hV _ (List.getElem_mem cV)
    have hfj := hf j
    have ev : V.getD j 0 = V[j] := getD_at cV
    rw [decide_eq_true (by omega), condP_true, b1, outP_val, w_load_c, b3, vO_some, outP_val, h2, outP_val, w_load_c, h3 x, vO_some, outP_val, a1, outP_val, w_load_c, a3, vO_some, outP_val, w_cint, outP_val, wrap64_32 hx, w_add_in (by omega) (by omega), outP_val, b1, outP_val, w_store_c, ← ev, c1, outP_skip, w_add_in (by omega) (by omega), outP_val]
    refine hrec _ _ ⟨j + 1, by rfl, by omega, x.trans c2, ?_⟩ ?_
    · rw [rset] at c4
      have e : (fun u => if u = j then f j + V.getD j 0 else if u < j then f u + V.getD u 0 else f u) = fun u => if u < j + 1 then f u + V.getD u 0 else f u := by
        funext u
        by_cases c1 : u = j
        · subst c1; simp
        · by_cases c2 : u < j
          · rw [if_neg c1, if_pos c2, if_pos (by omega)]
          · rw [if_neg c1, if_neg c2, if_neg (by omega)]
      rw [e] at c4; exact c4
    · show d - ((j : Int) + 1).toNat < d - (j : Int).toNat
      omega
  · rw [decide_eq_false (by omega), condP_false, w_add_in (by omega) (by omega), outP_val]
    refine hK _ x ?_
    have e : ((List.range d).map fun u => if u < j then f u + V.getD u 0 else f u) = (List.range d).map fun u => f u + V.getD u 0 := by
      refine List.map_congr_left fun u hu => ?_
      have hu := List.mem_range.1 hu
      by_cases c1 : u < j
      · rw [if_pos c1]
      · rw [if_neg c1, show V.getD u 0 = 0 by rw [List.getD_eq_getElem?_getD, List.getElem?_eq_none (by omega)]; rfl, Int.add_zero]
    rw [e] at og; exact og

/-- All vectors that are nearest to one middle are summed. -/
theorem rsums_wp {G : AH} {b bt Bs : Nat} {s st ss : AV} {Y : List Vq} {M : List (List Int)} {d k : Nat} {K : AV → AH → Prop} {r0 : AV × AV × AV × AV → AH → Prop} {r1 : AV × AV × AV × AV × AV × AV × AV → AH → Prop} {x1 x7 x11 x90 x91 : AV}
    (hd : d ≤ 1000) (h : Vs G b s Y) (hd1 : ∀ y ∈ Y, 1 ≤ y.2.2.length) (ht : Is .i64 G bt st ((vals Y).map (nearM M))) (x : Ext [] G H) (hB : G.next ≤ Bs) (o : Os 2 .i64 H Bs ss ((List.range d).map fun _ => 0))
    (hK : ∀ H', Ext [] G H' → H.next ≤ H'.next → Ext [Bs] H H' → Os 2 .i64 H' Bs ss ((List.range d).map (sumM (ofM M (vals Y) k))) → m_fieldfareref1_Middlestttthtblthbtttbltthbtttt K r0 r1 x1 s x7 x11 st (.int .i64 k) (.int .i64 (ofM M (vals Y) k).length) ss x90 x91 H') :
    m_fieldfareref1_Middlestttthtblthbtttbltthbttth K r0 r1 x1 s x7 x11 st (.int .i64 k) (.int .i64 0) ss x90 x91 H := by
  have hL := h.len
  have lv : (vals Y).length = Y.length := by simp
  unfold m_fieldfareref1_Middlestttthtblthbtttbltthbttth
  rw [vrow_len (h.mono0 x).sl, outP_val]
  unfold m_fieldfareref1_Middlestttthtblthbtttbltthbttthtb
  refine loopP_rule (I := fun t Gx => ∃ i : Nat, t = (x1, s, x7, x11, st, .int .i64 k, .int .i64 (ofM M ((vals Y).take i) k).length, ss, x90, x91, .int .i64 Y.length, .int .i64 i) ∧ i ≤ Y.length ∧ Ext [] G Gx ∧ H.next ≤ Gx.next ∧ Ext [Bs] H Gx ∧ Os 2 .i64 Gx Bs ss ((List.range d).map (sumM (ofM M ((vals Y).take i) k))))
    (μ := fun t _ => match t.2.2.2.2.2.2.2.2.2.2.2 with | .int _ z => Y.length - z.toNat | _ => 0) ?_ ⟨0, rfl, Nat.zero_le _, x, Nat.le_refl _, Ext.refl _ _, o⟩
  rintro t Gx ⟨i, rfl, hi, xx, nx, xB, ox⟩ rec hrec
  unfold m_fieldfareref1_Middlestttthtblthbtttbltthbttthtbl
  dsimp only
  rw [w_lss, outP_val]
  unfold m_fieldfareref1_Middlestttthtblthbtttbltthbttthtblt
  by_cases ci : i < Y.length
  · have mi := List.getElem_mem ci
    have e : ofM M ((vals Y).take (i + 1)) k = ofM M ((vals Y).take i) k ++ (if nearM M Y[i].2.2 = (k : Int) then [Y[i].2.2] else []) := by
      rw [List.take_succ_eq_append_getElem (by rw [lv]; exact ci), ofM_snoc]; simp
    have lo : (ofM M ((vals Y).take i) k).length ≤ Y.length := by
      have : (ofM M ((vals Y).take i) k).length ≤ ((vals Y).take i).length := List.length_filter_le _ _
      rw [List.length_take] at this; omega
    rw [decide_eq_true (by omega), condP_true]
    unfold m_fieldfareref1_Middlestttthtblthbtttbltthbttthtbltthb m_fieldfareref1_Middlestttthtblthbtttbltthbttthtbltthbt
    have dec : Y.length - ((i : Int) + 1).toNat < Y.length - (i : Int).toNat := by omega
    obtain ⟨q, a1, _, a3⟩ := Is.at (Sl.mono ht xx (by simp) : Sl Gx 1 bt st (nums .i64 ((vals Y).map (nearM M)))) (j := i) (by simp; exact ci)
    have eT : ((vals Y).map (nearM M))[i]'(by simp; exact ci) = nearM M Y[i].2.2 := by simp
    rw [eT] at a3
    rw [a1, outP_val, w_load_c, a3, vO_some, outP_val, w_neq, outP_val]
    by_cases c : nearM M Y[i].2.2 = (k : Int)
    · rw [decide_eq_true c, Bool.not_true, condP_false]
      rw [if_pos c] at e
      unfold m_fieldfareref1_Middlestttthtblthbtttbltthbttthtbltthbtt
      rw [w_add_in (by omega) (by omega), outP_val]
      obtain ⟨p, d1, d2, d3⟩ := vrow_at h.sl ci
      have he := (h.el _ mi).mono0 xx
      have hlow : Y[i].2.1 < G.next := (h.el _ mi).low.resolve_right fun r => by have := hd1 _ mi; rw [r] at this; simp at this
      refine rsum_wp hd (by omega) d1 (fun {G'} x' => ?_) he.is (by omega) he.in32 ox (fun j => ?_) fun G2 x2 o2 => ?_
      · have xg : Ext [] G G' := (xx.mono (m' := [Bs]) (by simp)).trans x' |>.mono fun b hb hlt => (by simp at hb; omega)
        exact ext_ld xg d2 (by simp) d3
      · have := sumM_bnd (L := ofM M ((vals Y).take i) k) (i := j) (a := -2147483648) (b := 2147483647) fun V hV => by
          have hV : V ∈ ((vals Y).take i).filter _ := hV
          obtain ⟨y, hy, rfl⟩ := List.mem_map.1 (List.mem_of_mem_take (List.mem_filter.1 hV).1)
          exact getD_32 (h.el y hy).in32 j
        omega
      · have n2 := x2.next
        refine hrec _ _ ⟨i + 1, ?_, by omega, (xx.mono (m' := [Bs]) (by simp)).trans x2 |>.mono fun b hb hlt => (by simp at hb; omega), by omega, xB.trans x2, ?_⟩ dec
        · rw [e, List.length_append, List.length_singleton]; rfl
        · have ef : (fun j => sumM (ofM M ((vals Y).take i) k) j + Y[i].2.2.getD j 0) = sumM (ofM M ((vals Y).take (i + 1)) k) := by
            funext j; rw [e, sumM_snoc]
          rw [ef] at o2; exact o2
    · rw [decide_eq_false c, Bool.not_false, condP_true, w_add_in (by omega) (by omega), outP_val]
      rw [if_neg c, List.append_nil] at e
      exact hrec _ _ ⟨i + 1, by rw [e]; rfl, by omega, xx, nx, xB, by rw [e]; exact ox⟩ dec
  · rw [decide_eq_false (by omega), condP_false]
    rw [List.take_of_length_le (by rw [lv]; omega)] at ox ⊢
    exact hK _ xx nx xB ox
/-- A vector's numbers are changed in their place. -/
theorem zs_upd {B : Nat} {s : AV} {Z : List Vq} {N : Nat} (h : Zs H B s Z N) {k : Nat} (hk : k < Z.length) (x : Ext [Z[k].2.1] H H') {X : List Int} (o : Os 21 .i32 H' Z[k].2.1 Z[k].1 X) (hX : In32 X) : Zs H' B s (Z.set k (Z[k].1, Z[k].2.1, X)) N := by
  have nx := x.next
  have mk := List.getElem_mem hk
  have ap := List.pairwise_iff_getElem.1 h.apart
  have hset : vrow (Z.set k (Z[k].1, Z[k].2.1, X)) = vrow Z := by
    refine List.ext_getElem (by simp) fun i h1 h2 => ?_
    simp only [List.getElem_map, List.getElem_set]
    by_cases c : k = i
    · subst c; simp
    · rw [if_neg c]
  refine ⟨by rw [hset]; exact h.own.mono x (by simp; exact fun q => h.ne _ mk q.symm), fun w hw => ?_, ?_, fun w hw => ?_⟩
  · obtain ⟨i, hi, rfl⟩ := List.mem_iff_getElem.1 hw
    rw [List.length_set] at hi
    rw [List.getElem_set]
    have hvk := h.vos _ mk
    by_cases q : k = i
    · rw [if_pos q]; exact ⟨⟨o, hX⟩, by show Z[k].2.1 < _; omega, hvk.2.2⟩
    · rw [if_neg q]
      obtain ⟨v1, v2, v3⟩ := h.vos _ (List.getElem_mem hi)
      refine ⟨v1.mono x ?_, by omega, v3⟩
      simp
      rcases Nat.lt_or_gt_of_ne q with r | r
      · exact fun e => ap k i hk hi r e.symm
      · exact ap i k hi hk r
  · rw [List.pairwise_iff_getElem]
    intro i j hi hj hij
    rw [List.length_set] at hi hj
    have := ap i j hi hj hij
    rw [List.getElem_set, List.getElem_set]
    by_cases q : k = i
    · subst q; rw [if_pos rfl, if_neg (by omega)]; exact this
    · rw [if_neg q]
      by_cases q' : k = j
      · subst q'; rw [if_pos rfl]; exact this
      · rw [if_neg q']; exact this
  · rcases List.mem_or_eq_of_mem_set hw with q | q
    · exact h.ne w q
    · rw [q]
      show Z[k].2.1 ≠ B
      exact h.ne _ mk
theorem range_getD' (V : List Int) : (List.range V.length).map (fun i => V.getD i 0) = V := by
  refine List.ext_getElem (by simp) fun i h1 h2 => ?_
  rw [List.getElem_map, List.getElem_range, getD_at h2]
/-- A middle is moved. -/
theorem rmove_wp {Hb : AH} {B0 Bs : Nat} {s0 ss : AV} {Z : List Vq} {L : List (List Int)} {k n : Nat} {K : AV → AH → Prop} {r0 : AV × AV × AV × AV → AH → Prop} {r1 : AV × AV × AV × AV × AV × AV × AV → AH → Prop} {x1 x2 x11 x12 x90 : AV}
    (hz : Zs H B0 s0 Z Hb.next) (x : Ext [] Hb H) (hk : k < Z.length) (hl : Z.length ≤ 1000) (hd : Z[k].2.2.length ≤ 1000) (hL : ∀ V ∈ L, In32 V) (hLl : L.length ≤ 1000) (o : Os 2 .i64 H Bs ss ((List.range Z[k].2.2.length).map (sumM L))) (hB1 : Bs ≠ Z[k].2.1)
    (hK : ∀ H', Ext [] Hb H' → Ext [Z[k].2.1] H H' → Zs H' B0 s0 (Z.set k (Z[k].1, Z[k].2.1, midV Z[k].2.2 L)) Hb.next → r1 (x1, x2, s0, x11, x12, x90, .int .i64 ((k : Int) + 1)) H') (hn : n = L.length) :
    m_fieldfareref1_Middlestttthtblthbtttbltthbtttt K r0 r1 x1 x2 s0 x11 x12 (.int .i64 k) (.int .i64 n) ss x90 (.int .i64 k) H := by
  subst hn
  have mk := List.getElem_mem hk
  have hv := hz.vos _ mk
  obtain ⟨p, a1, a2, a3⟩ := vrow_at hz.own.sl hk
  have ne := hz.ne _ mk
  unfold m_fieldfareref1_Middlestttthtblthbtttbltthbtttt
  have ls := o.is.len i64_slR
  rw [List.length_map, List.length_range] at ls
  rw [ls, outP_val]
  unfold m_fieldfareref1_Middlestttthtblthbtttbltthbtttttb
  refine loopP_rule (I := fun t G => ∃ j : Nat, t = (x1, x2, s0, x11, x12, .int .i64 k, .int .i64 L.length, ss, x90, .int .i64 k, .int .i64 Z[k].2.2.length, .int .i64 j) ∧ j ≤ Z[k].2.2.length ∧ Ext [Z[k].2.1] H G ∧ Os 21 .i32 G Z[k].2.1 Z[k].1 ((List.range Z[k].2.2.length).map fun u => if u < j ∧ L ≠ [] then sumM L u / (L.length : Int) else Z[k].2.2.getD u 0))
    (μ := fun t _ => match t.2.2.2.2.2.2.2.2.2.2.2 with | .int _ z => Z[k].2.2.length - z.toNat | _ => 0) ?_ ⟨0, rfl, Nat.zero_le _, Ext.refl _ _, ?_⟩
  · rintro t G ⟨j, rfl, hj, xg, og⟩ rec hrec
    unfold m_fieldfareref1_Middlestttthtblthbtttbltthbtttttbl
    dsimp only
    rw [w_lss, outP_val]
    have xH : Ext [] Hb G := (x.mono (m' := [Z[k].2.1]) (by simp)).trans xg |>.mono fun b hb hlt => by have := hv.2.2; simp at hb; omega
    by_cases cj : j < Z[k].2.2.length
    · have dec : Z[k].2.2.length - ((j : Int) + 1).toNat < Z[k].2.2.length - (j : Int).toNat := by omega
      rw [decide_eq_true (by omega), condP_true, w_gtr, outP_val]
      by_cases c : L = []
      · rw [show decide ((0 : Int) < (L.length : Int)) = false by rw [c]; rfl, condP_false, w_add_in (by omega) (by omega), outP_val]
        refine hrec _ _ ⟨j + 1, by rfl, by omega, xg, ?_⟩ dec
        have e : (fun u => if u < j ∧ L ≠ [] then sumM L u / (L.length : Int) else Z[k].2.2.getD u 0) = fun u => if u < j + 1 ∧ L ≠ [] then sumM L u / (L.length : Int) else Z[k].2.2.getD u 0 := by
          funext u; rw [if_neg (fun q => q.2 c), if_neg (fun q => q.2 c)]
        rw [← e]; exact og
      · have lp := List.length_pos_iff.2 c
        have sG : Is .i64 G Bs ss ((List.range Z[k].2.2.length).map (sumM L)) := Sl.mono o.is xg (by simp; exact hB1)
        obtain ⟨q1, d1, _, d3⟩ := sG.at (j := j) (by simp; exact cj)
        rw [rget] at d3
        have ld : ldV (G.get B0) p = some Z[k].1 := ext_ld xg a2 (by simp; exact fun q => ne q.symm) a3
        have bnd := sumM_bnd (L := L) (i := j) (a := -2147483648) (b := 2147483647) fun V hV => getD_32 (hL V hV) j
        have mb := mean_bnd (L := L) (i := j) (a := -2147483648) (b := 2147483647) (fun V hV => getD_32 (hL V hV) j) c
        have sk := Sl.slk hv.1.os.is
        obtain ⟨q2, b1, _, b3, b4⟩ := og.at (j := j) (by simp; exact cj)
        obtain ⟨G2, c1, c2, c3, c4⟩ := b4 (sumM L j / (L.length : Int))
        rw [decide_eq_true (by omega), condP_true, a1, outP_val, w_load_c, ld, vO_some, outP_val, d1, outP_val, w_load_c, d3, vO_some, outP_val, outP_enter]
        refine down_wp (by omega) (by omega) _ ?_
        rw [w_load_c, ld, vO_some, reC_val, beq_slk sk, ckP_true, w_cint, outP_val, wrap32_in mb.1 mb.2, b1, outP_val, w_store_c, c1, outP_skip, w_add_in (by omega) (by omega), outP_val]
        refine hrec _ _ ⟨j + 1, by rfl, by omega, xg.trans c2, ?_⟩ dec
        rw [rset] at c4
        have e : (fun u => if u = j then sumM L j / (L.length : Int) else if u < j ∧ L ≠ [] then sumM L u / (L.length : Int) else Z[k].2.2.getD u 0) = fun u => if u < j + 1 ∧ L ≠ [] then sumM L u / (L.length : Int) else Z[k].2.2.getD u 0 := by
          funext u
          by_cases c1 : u = j
          · subst c1; rw [if_pos rfl, if_pos ⟨by omega, c⟩]
          · rw [if_neg c1]
            by_cases c2 : u < j
            · rw [if_pos ⟨c2, c⟩, if_pos ⟨by omega, c⟩]
            · rw [if_neg (fun q => c2 q.1), if_neg (fun q => by omega)]
        rw [e] at c4; exact c4
    · rw [decide_eq_false (by omega), condP_false, w_add_in (by omega) (by omega), outP_val]
      obtain rfl : j = Z[k].2.2.length := by omega
      have e : ((List.range Z[k].2.2.length).map fun u => if u < Z[k].2.2.length ∧ L ≠ [] then sumM L u / (L.length : Int) else Z[k].2.2.getD u 0) = midV Z[k].2.2 L := by
        unfold midV
        by_cases c : L = []
        · rw [if_pos c]
          have e2 : (fun u => if u < Z[k].2.2.length ∧ L ≠ [] then sumM L u / (L.length : Int) else Z[k].2.2.getD u 0) = fun u => Z[k].2.2.getD u 0 := by
            funext u; rw [if_neg (fun q => q.2 c)]
          rw [e2, range_getD']
        · rw [if_neg c]
          exact List.map_congr_left fun u hu => if_pos ⟨List.mem_range.1 hu, c⟩
      rw [e] at og
      exact hK _ xH xg (zs_upd hz hk xg og (midV_32 hv.1.in32 hL))
  · have e : ((List.range Z[k].2.2.length).map fun u => if u < 0 ∧ L ≠ [] then sumM L u / (L.length : Int) else Z[k].2.2.getD u 0) = Z[k].2.2 := by
      have e2 : (fun u => if u < 0 ∧ L ≠ [] then sumM L u / (L.length : Int) else Z[k].2.2.getD u 0) = fun u => Z[k].2.2.getD u 0 := by
        funext u; rw [if_neg (fun q => by omega)]
      rw [e2, range_getD']
    rw [e]; exact hv.1.os

theorem rturns_wp {b B0 : Nat} {s s0 : AV} {Y Z0 : List Vq} {G0 : AH} (h : Vs H b s Y) (hd : ∀ y ∈ Y, 1 ≤ y.2.2.length) (R : Nat) (hR : R ≤ 10) (x0 : Ext [] H G0) (_hB0 : H.next ≤ B0) (hz0 : Zs G0 B0 s0 Z0 H.next) (hl0 : Z0.length ≤ 1000) (hg0 : ∀ z ∈ Z0, 1 ≤ z.2.2.length ∧ z.2.2.length ≤ 1000) (K : AV → AH → Prop)
    (hK : ∀ H' Z, Ext [] H H' → Zs H' B0 s0 Z H.next → vals Z = iterM (vals Y) R (vals Z0) → K s0 H') : m_fieldfareref1_Middlestttth K (.int .i64 R) s s0 G0 := by
  have hL := h.len
  have ly : (vals Y).length = Y.length := by simp
  unfold m_fieldfareref1_Middlestttth m_fieldfareref1_Middlestttthtb
  refine loopP_rule (I := fun t G => ∃ (k : Nat) (Z : List Vq), t = (.int .i64 R, s, s0, .int .i64 k) ∧ k ≤ R ∧ Ext [] H G ∧ Zs G B0 s0 Z H.next ∧ vals Z = iterM (vals Y) k (vals Z0) ∧ Z.length ≤ 1000 ∧ ∀ z ∈ Z, 1 ≤ z.2.2.length ∧ z.2.2.length ≤ 1000)
    (μ := fun t _ => match t.2.2.2 with | .int _ z => R - z.toNat | _ => 0) ?_ ⟨0, Z0, rfl, Nat.zero_le _, x0, hz0, rfl, hl0, hg0⟩
  rintro t G ⟨k, Z, rfl, hk, x, hz, hZ, hl, hg⟩ rec hrec
  unfold m_fieldfareref1_Middlestttthtbl
  dsimp only
  rw [w_lss, outP_val]
  by_cases ck : k < R
  · rw [decide_eq_true (by omega), condP_true]
    unfold m_fieldfareref1_Middlestttthtblthb
    obtain ⟨G1, q1, x1, n1, o1⟩ := make_nums (H := G) (k := .i64) int_elO int_byR (by omega) (n := Y.length) (by omega)
    have vY : ∀ {G' : AH}, Ext [] H G' → Vs G' b s Y := fun e => h.mono0 e
    rw [vrow_len (vY x).sl, outP_val, q1, outP_val]
    have nx := x.next
    have hlm : (vals Z).length = Z.length := by simp
    generalize (AV.slice (some (G.next, 0)) Y.length Y.length true) = st at *
    rw [← fillTo_zero (fun i => nearM (vals Z) ((vals Y).getD i [])) Y.length] at o1
    unfold m_fieldfareref1_Middlestttthtblthbth
    rw [vrow_len (vY (x.trans x1)).sl, outP_val]
    unfold m_fieldfareref1_Middlestttthtblthbthtb
    refine loopP_rule (I := fun t Gx => ∃ j : Nat, t = (.int .i64 R, s, s0, .int .i64 k, st, .int .i64 Y.length, .int .i64 j) ∧ j ≤ Y.length ∧ Ext [] G Gx ∧ Os 3 .i64 Gx G.next st (fillTo (fun i => nearM (vals Z) ((vals Y).getD i [])) Y.length j))
      (μ := fun t _ => match t.2.2.2.2.2.2 with | .int _ z => Y.length - z.toNat | _ => 0) ?_ ⟨0, rfl, Nat.zero_le _, x1, o1⟩
    rintro t G2 ⟨j, rfl, hj, x2, o2⟩ rec2 hrec2
    unfold m_fieldfareref1_Middlestttthtblthbthtbl
    dsimp only
    rw [w_lss, outP_val]
    have x02 := x.trans x2
    by_cases cj : j < Y.length
    · obtain ⟨p, a1, _, a3⟩ := vrow_at (vY x02).sl cj
      have he := (vY x02).el _ (List.getElem_mem cj)
      have vz : Vs G2 B0 s0 Z := (hz.mono0 x2).vsM hl fun z q => (hg z q).2
      rw [decide_eq_true (by omega), condP_true, a1, outP_val, w_load_c, a3, vO_some, outP_val, outP_enter]
      refine rNear_wp vz he.is he.in32 _ ?_
      obtain ⟨p2, b1, b2, b3, b4⟩ := o2.at (j := j) (by rw [fillTo_len]; exact cj)
      obtain ⟨G3, c1, c2, c3, c4⟩ := b4 (nearM (vals Z) Y[j].2.2)
      have e := fillTo_set (fun i => nearM (vals Z) ((vals Y).getD i [])) Y.length j
      rw [vals_at cj] at e
      rw [e] at c4
      rw [b1, outP_val, w_store_c, c1, outP_skip, w_add_in (by omega) (by omega), outP_val]
      refine hrec2 _ _ ⟨j + 1, by rfl, by omega, (x2.mono (m' := [G.next]) (by simp)).trans c2 |>.mono fun b hb hlt => (by simp at hb; omega), c4⟩ ?_
      show Y.length - ((j : Int) + 1).toNat < Y.length - (j : Int).toNat
      omega
    · rw [decide_eq_false (by omega), condP_false]
      obtain rfl : j = Y.length := by omega
      rw [fillTo_all] at o2
      have eT : ((List.range Y.length).map fun i => nearM (vals Z) ((vals Y).getD i [])) = (vals Y).map (nearM (vals Z)) := by
        refine List.ext_getElem (by simp) fun u h1 h2 => ?_
        have hu : u < Y.length := by simpa using h1
        rw [List.getElem_map, List.getElem_range, vals_at hu]; simp
      rw [eT] at o2
      unfold m_fieldfareref1_Middlestttthtblthbtt
      rw [vrow_len (hz.mono0 x2).own.sl, outP_val]
      unfold m_fieldfareref1_Middlestttthtblthbtttb
      refine loopP_rule (I := fun t Gx => ∃ (i : Nat) (Z' : List Vq), t = (.int .i64 R, s, s0, .int .i64 k, st, .int .i64 Z.length, .int .i64 i) ∧ i ≤ Z.length ∧ Ext [] H Gx ∧ G.next ≤ Gx.next ∧ Zs Gx B0 s0 Z' H.next ∧ Is .i64 Gx G.next st ((vals Y).map (nearM (vals Z))) ∧ Z'.length = Z.length ∧ (∀ u (hu : u < Z'.length) (hu' : u < Z.length), Z'[u].2.1 = Z[u].2.1 ∧ (i ≤ u → Z'[u] = Z[u])) ∧ ∀ u (hu : u < Z'.length), u < i → Z'[u].2.2 = midV ((vals Z).getD u []) (ofM (vals Z) (vals Y) u))
        (μ := fun t _ => match t.2.2.2.2.2.2 with | .int _ z => Z.length - z.toNat | _ => 0) ?_ ⟨0, Z, rfl, Nat.zero_le _, x02, x2.next, hz.mono0 x2, o2.is, rfl, fun _ _ _ => ⟨rfl, fun _ => rfl⟩, fun u _ q => by omega⟩
      rintro t G5 ⟨i, Z', rfl, hi, x5, n5, hz5, t5, lZ', old, new⟩ rec3 hrec3
      unfold m_fieldfareref1_Middlestttthtblthbtttbl
      dsimp only
      rw [w_lss, outP_val]
      unfold m_fieldfareref1_Middlestttthtblthbtttblt
      by_cases ci : i < Z.length
      · have ci' : i < Z'.length := by omega
        have ez := (old i ci' ci).2 (Nat.le_refl _)
        obtain ⟨p, a1, _, a3⟩ := vrow_at hz5.own.sl ci'
        have vm := hz5.vos _ (List.getElem_mem ci')
        have gz := hg _ (List.getElem_mem ci)
        have zlt := (hz.vos _ (List.getElem_mem ci)).2.1
        have ed : Z'[i].2.2.length = Z[i].2.2.length := by rw [ez]
        rw [decide_eq_true (by omega), condP_true]
        unfold m_fieldfareref1_Middlestttthtblthbtttbltthb m_fieldfareref1_Middlestttthtblthbtttbltthbt m_fieldfareref1_Middlestttthtblthbtttbltthbtt
        obtain ⟨G6, q6, x6, n6, o6⟩ := make_nums (H := G5) (k := .i64) i64_elR i64_byR (by omega) (n := Z'[i].2.2.length) (by omega)
        rw [a1, outP_val, w_load_c, a3, vO_some, outP_val, vm.1.os.is.len vec_sl, outP_val, q6, outP_val]
        generalize (AV.slice (some (G5.next, 0)) Z'[i].2.2.length Z'[i].2.2.length true) = ss at *
        have er : List.replicate Z'[i].2.2.length (0 : Int) = (List.range Z'[i].2.2.length).map fun _ => 0 := by
          refine List.ext_getElem (by simp) fun u h1 h2 => by simp
        rw [er] at o6
        refine rsums_wp (by omega) (vY x5) hd t5 x6 (Nat.le_refl _) o6 fun G7 x7 n7 x67 o7 => ?_
        have vlt := vm.2.1
        have Lb : (ofM (vals Z) (vals Y) i).length ≤ 1000 := by
          have : (ofM (vals Z) (vals Y) i).length ≤ (vals Y).length := List.length_filter_le _ _
          omega
        refine rmove_wp (L := ofM (vals Z) (vals Y) i) (hz5.mono0 x7) (x5.trans x7) ci' (by omega) (by omega) (fun V hV => ?_) Lb o7 (by omega) (fun G8 x8 x78 z8 => ?_) rfl
        · have hV : V ∈ (vals Y).filter _ := hV
          obtain ⟨y, hy, rfl⟩ := List.mem_map.1 (List.mem_filter.1 hV).1
          exact (h.el y hy).in32
        · have n57 := x7.next
          have n78 := x78.next
          refine hrec3 _ _ ⟨i + 1, _, by rfl, by omega, x8, by omega, z8, ?_, by rw [List.length_set]; exact lZ', fun u hu hu' => ?_, fun u hu q => ?_⟩ ?_
          · exact Sl.mono (Sl.mono t5 x7 (by simp)) x78 (by simp; rw [ez]; omega)
          · rw [List.length_set] at hu
            rw [List.getElem_set]
            by_cases r : i = u
            · subst r
              rw [if_pos rfl]; exact ⟨(old i ci' ci).1, fun q => by omega⟩
            · rw [if_neg r]; exact ⟨(old u hu hu').1, fun q => (old u hu hu').2 (by omega)⟩
          · rw [List.length_set] at hu
            rw [List.getElem_set]
            by_cases r : i = u
            · subst r
              rw [if_pos rfl, vals_at ci, ez]
            · rw [if_neg r]; exact new u hu (by omega)
          · show Z.length - ((i : Int) + 1).toNat < Z.length - (i : Int).toNat
            omega
      · rw [decide_eq_false (by omega), condP_false, w_add_in (by omega) (by omega), outP_val]
        have eZ : vals Z' = turnM (vals Z) (vals Y) := by
          refine List.ext_getElem (by rw [turnM_len, hlm]; simp; omega) fun u h1 h2 => ?_
          have hu : u < Z'.length := by simpa using h1
          rw [List.getElem_map, turnM_at]
          exact new u hu (by omega)
        refine hrec _ _ ⟨k + 1, Z', by rfl, by omega, x5, hz5, by rw [eZ, hZ]; rfl, by omega, fun z q => ?_⟩ ?_
        · obtain ⟨u, hu, rfl⟩ := List.mem_iff_getElem.1 q
          rw [new u hu (by omega), midV_len, vals_at (by omega)]
          exact hg _ (List.getElem_mem _)
        · show R - ((k : Int) + 1).toNat < R - (k : Int).toNat
          omega
  · rw [decide_eq_false (by omega), condP_false]
    obtain rfl : k = R := by omega
    exact hK _ _ x hz hZ
theorem fold_full (n : Nat) : ∀ (L M : List (List Int)), n ≤ M.length → L.foldl (addM n) M = M
  | [], _, _ => rfl
  | V :: L, M, h => by
    show L.foldl (addM n) (addM n M V) = M
    rw [addM, if_neg (by omega), fold_full n L M h]
theorem rEqM_wp {b b' : Nat} {s s' : AV} {L M : List Int} (h : Is .i32 H b s L) (h' : Is .i32 H b' s' M) (hL : L.length ≤ 1000000) (K : AV → AH → Prop) (hK : K (.bool (decide (L = M))) H) : CC.call 50 [s, s'] H K := by
  refine m_fieldfareref1_EqVec_ok _ _ _ _ ?_
  unfold m_fieldfareref1_EqVec m_fieldfareref1_EqVect
  rw [h.len vec_sl, outP_val, h'.len vec_sl, outP_val, w_neq, outP_val]
  by_cases c : L.length = M.length
  · rw [decide_eq_true (by omega), Bool.not_true, condP_false]
    unfold m_fieldfareref1_EqVectth m_fieldfareref1_EqVectthtb
    rw [h.len vec_sl, outP_val]
    refine loopP_rule (I := fun t G => ∃ j : Nat, t = (s, s', .int .i64 L.length, .int .i64 j) ∧ j ≤ L.length ∧ G = H ∧ L.take j = M.take j) (μ := fun t _ => match t.2.2.2 with | .int _ z => L.length - z.toNat | _ => 0) ?_ ⟨0, rfl, Nat.zero_le _, rfl, rfl⟩
    rintro t G ⟨j, rfl, hj, rfl, eq⟩ rec hrec
    unfold m_fieldfareref1_EqVectthtbl
    rw [w_lss, outP_val]
    by_cases cj : j < L.length
    · obtain ⟨q, a1, _, a3⟩ := h.at cj
      obtain ⟨q', a1', _, a3'⟩ := h'.at (j := j) (by omega)
      rw [decide_eq_true (by omega), condP_true, a1, outP_val, w_load_c, a3, vO_some, outP_val, a1', outP_val, w_load_c, a3', vO_some, outP_val, w_neq, outP_val]
      by_cases cv : L[j] = M[j]
      · rw [decide_eq_true cv, Bool.not_true, condP_false, w_add_in (by omega) (by omega), outP_val]
        refine hrec _ _ ⟨j + 1, by rfl, by omega, rfl, ?_⟩ ?_
        · rw [List.take_succ_eq_append_getElem cj, List.take_succ_eq_append_getElem (by omega), eq, cv]
        · show L.length - ((j : Int) + 1).toNat < L.length - (j : Int).toNat
          omega
      · rw [decide_eq_false cv, Bool.not_false, condP_true]
        rw [decide_eq_false (fun q => cv (by subst q; rfl))] at hK
        exact hK
    · rw [decide_eq_false (by omega), condP_false]
      rw [List.take_of_length_le (by omega), List.take_of_length_le (by omega)] at eq
      rw [decide_eq_true eq] at hK
      exact hK
  · rw [decide_eq_false (by omega), Bool.not_false, condP_true]
    rw [decide_eq_false (fun q => c (by rw [q]))] at hK
    exact hK
def seenM (M : List (List Int)) (V : List Int) (k : Nat) : Bool := decide (V ∈ M.take k)
theorem rbegs_wp {b : Nat} {s : AV} {Y : List Vq} (h : Vs H b s Y) (hd : ∀ y ∈ Y, 1 ≤ y.2.2.length) (N R : Nat) (hN : N ≤ 16) (K : AV → AH → Prop)
    (hK : ∀ H' s' B Z, Ext [] H H' → H.next ≤ B → Zs H' B s' Z H.next → vals Z = begM N (vals Y) → Z.length ≤ Y.length → m_fieldfareref1_Middlestttth K (.int .i64 R) s s' H') : m_fieldfareref1_Middlesttth K (.int .i64 N) (.int .i64 R) s (.slice none 0 0 true) H := by
  have hL := h.len
  have ly : (vals Y).length = Y.length := by simp
  unfold m_fieldfareref1_Middlesttth m_fieldfareref1_Middlesttthtb
  refine loopP_rule (I := fun t G => ∃ (j B : Nat) (s' : AV) (Z : List Vq), t = (.int .i64 N, .int .i64 R, s, s', .int .i64 j) ∧ j ≤ Y.length ∧ Ext [] H G ∧ H.next ≤ B ∧ Zs G B s' Z H.next ∧ vals Z = begM N ((vals Y).take j) ∧ Z.length ≤ j ∧ (Z = [] → s' = .slice none 0 0 true))
    (μ := fun t _ => match t.2.2.2.2 with | .int _ z => Y.length - z.toNat | _ => 0) ?_ ⟨0, H.next, _, [], rfl, Nat.zero_le _, Ext.refl _ _, Nat.le_refl _, ⟨Own.nil _ _ _ _, by simp, List.Pairwise.nil, by simp⟩, by simp [begM], Nat.le_refl _, fun _ => rfl⟩
  rintro t G ⟨j, B, s', Z, rfl, hj, x1, hB, hz, hZ, hZj, hnil⟩ rec hrec
  unfold m_fieldfareref1_Middlesttthtbl
  dsimp only
  have n1 := x1.next
  have vY := h.mono0 x1
  have hlm : (vals Z).length = Z.length := by simp
  rw [vrow_len vY.sl, outP_val, w_lss]
  have fin : begM N (vals Y) = begM N ((vals Y).take j) → m_fieldfareref1_Middlestttth K (.int .i64 R) s s' G := fun e => hK _ _ B Z x1 hB hz (by rw [hZ, e]) (by omega)
  by_cases cj : j < Y.length
  · rw [decide_eq_true (by omega)]
    repeat (first | rw [outP_val] | rw [guardP_true] | rw [guardP_false] | rw [condP_true] | rw [vrow_len hz.own.sl] | rw [condP_false] | rw [boolIs_bool] | rw [boolIs_undef] | rw [beq_tt] | rw [beq_ff] | rw [Bool.not_true] | rw [Bool.not_false] | rw [outP_skip] | rw [w_pick_b] | rw [if_pos rfl] | rw [if_neg Bool.false_ne_true] | rw [w_fieldAddr_ptr] | rw [w_nil_ptr] | rw [Nat.zero_add] | rw [w_load_c] | rw [w_load_n] | rw [vO_some] | rw [w_store_c] | rw [w_not] | rw [w_leq] | rw [w_gtr] | rw [w_geq] | rw [w_eql] | rw [w_neq] | rw [w_cint] | rw [w_min2_int] | rw [w_max2_int] | rw [w_add_in (by omega) (by omega)] | rw [w_sub_in (by omega) (by omega)] | rw [w_mul_in (by omega) (by omega)] | rw [outP_enter])
    rw [w_lss]
    by_cases c1 : Z.length < N
    · rw [decide_eq_true (by omega)]
      repeat (first | rw [outP_val] | rw [guardP_true] | rw [guardP_false] | rw [condP_true] | rw [condP_false] | rw [boolIs_bool] | rw [boolIs_undef] | rw [beq_tt] | rw [beq_ff] | rw [Bool.not_true] | rw [Bool.not_false] | rw [outP_skip] | rw [w_pick_b] | rw [if_pos rfl] | rw [if_neg Bool.false_ne_true] | rw [w_fieldAddr_ptr] | rw [w_nil_ptr] | rw [Nat.zero_add] | rw [w_load_c] | rw [w_load_n] | rw [vO_some] | rw [w_store_c] | rw [w_not] | rw [w_lss] | rw [w_leq] | rw [w_gtr] | rw [w_geq] | rw [w_eql] | rw [w_neq] | rw [w_cint] | rw [w_min2_int] | rw [w_max2_int] | rw [w_add_in (by omega) (by omega)] | rw [w_sub_in (by omega) (by omega)] | rw [w_mul_in (by omega) (by omega)] | rw [outP_enter])
      unfold m_fieldfareref1_Middlesttthtblthb m_fieldfareref1_Middlesttthtblthbth
      obtain ⟨o, a1, a2, a3⟩ := vrow_at vY.sl cj
      have he := vY.el _ (List.getElem_mem cj)
      have hel := hd _ (List.getElem_mem cj)
      have hsh := h.short _ (List.getElem_mem cj)
      have enext : begM N ((vals Y).take (j + 1)) = addM N (vals Z) Y[j].2.2 := by
        rw [List.take_succ_eq_append_getElem (by rw [ly]; exact cj), begM_snoc, hZ]; simp
      rw [vrow_len hz.own.sl, outP_val]
      unfold m_fieldfareref1_Middlesttthtblthbthtb
      rw [show (AV.bool false) = .bool (seenM (vals Z) Y[j].2.2 0) by simp [seenM]]
      refine loopP_rule (I := fun t Gx => ∃ k : Nat, t = (.int .i64 N, .int .i64 R, s, s', .int .i64 j, .bool (seenM (vals Z) Y[j].2.2 k), .int .i64 Z.length, .int .i64 k) ∧ k ≤ Z.length ∧ Gx = G)
        (μ := fun t _ => match t.2.2.2.2.2.2.2 with | .int _ z => Z.length - z.toNat | _ => 0) ?_ ⟨0, rfl, Nat.zero_le _, rfl⟩
      rintro t Gx ⟨k, rfl, hk, rfl⟩ rec2 hrec2
      unfold m_fieldfareref1_Middlesttthtblthbthtbl
      dsimp only
      rw [w_lss, outP_val]
      by_cases ck : k < Z.length
      · have dec : Z.length - ((k : Int) + 1).toNat < Z.length - (k : Int).toNat := by omega
        have hz1 := hz.vos _ (List.getElem_mem ck)
        obtain ⟨p, d1, _, d3⟩ := vrow_at hz.own.sl ck
        have et : (vals Z).take (k + 1) = (vals Z).take k ++ [Z[k].2.2] := by
          rw [List.take_succ_eq_append_getElem (by rw [hlm]; exact ck)]; simp
        rw [decide_eq_true (by omega), condP_true]
        by_cases c2 : Y[j].2.2 ∈ (vals Z).take k
        · rw [show seenM (vals Z) Y[j].2.2 k = true from decide_eq_true c2]
          repeat (first | rw [outP_val] | rw [guardP_true] | rw [guardP_false] | rw [condP_true] | rw [condP_false] | rw [boolIs_bool] | rw [boolIs_undef] | rw [beq_tt] | rw [beq_ff] | rw [Bool.not_true] | rw [Bool.not_false] | rw [outP_skip] | rw [w_pick_b] | rw [if_pos rfl] | rw [if_neg Bool.false_ne_true] | rw [w_fieldAddr_ptr] | rw [w_nil_ptr] | rw [Nat.zero_add] | rw [w_load_c] | rw [w_load_n] | rw [vO_some] | rw [w_store_c] | rw [w_not] | rw [w_lss] | rw [w_leq] | rw [w_gtr] | rw [w_geq] | rw [w_eql] | rw [w_neq] | rw [w_cint] | rw [w_min2_int] | rw [w_max2_int] | rw [w_sub_in (by omega) (by omega)] | rw [w_mul_in (by omega) (by omega)] | rw [outP_enter])
          rw [w_add_in (by omega) (by omega), outP_val]
          refine hrec2 _ _ ⟨k + 1, ?_, by omega, rfl⟩ dec
          rw [show seenM (vals Z) Y[j].2.2 (k + 1) = true from decide_eq_true (show Y[j].2.2 ∈ (vals Z).take (k + 1) by rw [et]; exact List.mem_append_left _ c2)]; rfl
        · rw [show seenM (vals Z) Y[j].2.2 k = false from decide_eq_false c2]
          repeat (first | rw [outP_val] | rw [guardP_true] | rw [guardP_false] | rw [condP_true] | rw [d1] | rw [d3] | rw [a1] | rw [a3] | rw [condP_false] | rw [boolIs_bool] | rw [boolIs_undef] | rw [beq_tt] | rw [beq_ff] | rw [Bool.not_true] | rw [Bool.not_false] | rw [outP_skip] | rw [w_pick_b] | rw [if_pos rfl] | rw [if_neg Bool.false_ne_true] | rw [w_fieldAddr_ptr] | rw [w_nil_ptr] | rw [Nat.zero_add] | rw [w_load_c] | rw [w_load_n] | rw [vO_some] | rw [w_store_c] | rw [w_not] | rw [w_lss] | rw [w_leq] | rw [w_gtr] | rw [w_geq] | rw [w_eql] | rw [w_neq] | rw [w_cint] | rw [w_min2_int] | rw [w_max2_int] | rw [w_add_in (by omega) (by omega)] | rw [w_sub_in (by omega) (by omega)] | rw [w_mul_in (by omega) (by omega)])
          rw [outP_enter]
          have hsz : Z[k].2.2.length ≤ 1000 := by
            have : Z[k].2.2 ∈ begM N ((vals Y).take j) := by rw [← hZ]; exact List.mem_map.2 ⟨_, List.getElem_mem ck, rfl⟩
            obtain ⟨y, hy, e⟩ := List.mem_map.1 (List.mem_of_mem_take (begM_mem this))
            rw [← e]; exact h.short y hy
          refine rEqM_wp hz1.1.os.is he.is (by omega) _ ?_
          repeat (first | rw [outP_val] | rw [guardP_true] | rw [guardP_false] | rw [condP_true] | rw [condP_false] | rw [boolIs_bool] | rw [boolIs_undef] | rw [beq_tt] | rw [beq_ff] | rw [Bool.not_true] | rw [Bool.not_false] | rw [outP_skip] | rw [w_pick_b] | rw [if_pos rfl] | rw [if_neg Bool.false_ne_true] | rw [w_fieldAddr_ptr] | rw [w_nil_ptr] | rw [Nat.zero_add] | rw [w_load_c] | rw [w_load_n] | rw [vO_some] | rw [w_store_c] | rw [w_not] | rw [w_lss] | rw [w_leq] | rw [w_gtr] | rw [w_geq] | rw [w_eql] | rw [w_neq] | rw [w_cint] | rw [w_min2_int] | rw [w_max2_int] | rw [w_sub_in (by omega) (by omega)] | rw [w_mul_in (by omega) (by omega)] | rw [outP_enter])
          rw [w_add_in (by omega) (by omega), outP_val]
          refine hrec2 _ _ ⟨k + 1, ?_, by omega, rfl⟩ dec
          have e : decide (Z[k].2.2 = Y[j].2.2) = seenM (vals Z) Y[j].2.2 (k + 1) := by
            unfold seenM
            rw [et]
            by_cases q : Z[k].2.2 = Y[j].2.2
            · rw [decide_eq_true q, decide_eq_true (by rw [q]; simp)]
            · rw [decide_eq_false q, decide_eq_false (fun r => by
                rcases List.mem_append.1 r with r | r
                · exact c2 r
                · exact q (List.mem_singleton.1 r).symm)]
          rw [e]; rfl
      · rw [decide_eq_false (by omega), condP_false]
        obtain rfl : k = Z.length := by omega
        have dec : Y.length - ((j : Int) + 1).toNat < Y.length - (j : Int).toNat := by omega
        by_cases c2 : Y[j].2.2 ∈ vals Z
        · rw [show seenM (vals Z) Y[j].2.2 Z.length = true from decide_eq_true (by rw [List.take_of_length_le (by rw [hlm]; exact Nat.le_refl _)]; exact c2), w_not, outP_val, Bool.not_true, condP_false]
          unfold m_fieldfareref1_Middlesttthtbltt
          rw [w_add_in (by omega) (by omega), outP_val]
          exact hrec _ _ ⟨j + 1, B, s', Z, by rfl, by omega, x1, hB, hz, by rw [enext, addM, if_neg (fun q => q.2 c2)], by omega, hnil⟩ dec
        · rw [show seenM (vals Z) Y[j].2.2 Z.length = false from decide_eq_false (by rw [List.take_of_length_le (by rw [hlm]; exact Nat.le_refl _)]; exact c2), w_not, outP_val, Bool.not_false, condP_true, a1, outP_val, w_load_c, a3, vO_some, outP_val, outP_enter]
          refine m_fieldfareref1_CopyVec_ok _ _ _ ?_
          unfold m_fieldfareref1_CopyVec
          obtain ⟨v, G2, Bv, e1, e2, e3, e4⟩ := (os_nil (H := Gx) 21 .i32 Gx.next).append (by_ := 4) he.is (by omega) (by simp; omega)
          rw [e1, outP_val]
          have x2 : Ext [] Gx G2 := e2.mono fun b hb hlt => by simp at hb; omega
          have o2 : Os 21 .i32 G2 Bv v Y[j].2.2 := by simpa using e4
          have n3 := x2.next
          have hBv : Gx.next ≤ Bv := by omega
          have hlow : Bv < G2.next := (Own.low o2).resolve_right fun r => by rw [List.map_eq_nil_iff.1 r] at hel; simp at hel
          refine push_zs (hz.mono0 x2) (x1.trans x2) hB hnil (by omega) o2 (by omega) hlow he.in32 (fun z q => ?_) (fun q => ?_) _ fun G3 s3 B3 x4 hB3 hz3 => ?_
          · have := (hz.vos z q).2.1; omega
          · have := (Own.low hz.own).resolve_right fun r => q (List.map_eq_nil_iff.1 r)
            omega
          · unfold m_fieldfareref1_Middlesttthtbltt
            rw [w_add_in (by omega) (by omega), outP_val]
            refine hrec _ _ ⟨j + 1, B3, s3, _, by rfl, by omega, x4, hB3, hz3, ?_, by simp; omega, fun q => by simp at q⟩ dec
            rw [enext, addM, if_pos ⟨by omega, c2⟩]; simp
    · rw [decide_eq_false (by omega)]
      repeat (first | rw [outP_val] | rw [guardP_true] | rw [guardP_false] | rw [condP_true] | rw [condP_false] | rw [boolIs_bool] | rw [boolIs_undef] | rw [beq_tt] | rw [beq_ff] | rw [Bool.not_true] | rw [Bool.not_false] | rw [outP_skip] | rw [w_pick_b] | rw [if_pos rfl] | rw [if_neg Bool.false_ne_true] | rw [w_fieldAddr_ptr] | rw [w_nil_ptr] | rw [Nat.zero_add] | rw [w_load_c] | rw [w_load_n] | rw [vO_some] | rw [w_store_c] | rw [w_not] | rw [w_lss] | rw [w_leq] | rw [w_gtr] | rw [w_geq] | rw [w_eql] | rw [w_neq] | rw [w_cint] | rw [w_min2_int] | rw [w_max2_int] | rw [w_add_in (by omega) (by omega)] | rw [w_sub_in (by omega) (by omega)] | rw [w_mul_in (by omega) (by omega)] | rw [outP_enter])
      refine fin ?_
      have e : vals Y = (vals Y).take j ++ (vals Y).drop j := (List.take_append_drop _ _).symm
      have : begM N (vals Y) = ((vals Y).drop j).foldl (addM N) (begM N ((vals Y).take j)) := by
        rw [begM, begM, ← List.foldl_append, ← e]
      rw [this, ← hZ]
      exact fold_full N _ _ (by omega)
  · rw [decide_eq_false (by omega)]
    repeat (first | rw [outP_val] | rw [guardP_true] | rw [guardP_false] | rw [condP_true] | rw [condP_false] | rw [boolIs_bool] | rw [boolIs_undef] | rw [beq_tt] | rw [beq_ff] | rw [Bool.not_true] | rw [Bool.not_false] | rw [outP_skip] | rw [w_pick_b] | rw [if_pos rfl] | rw [if_neg Bool.false_ne_true] | rw [w_fieldAddr_ptr] | rw [w_nil_ptr] | rw [Nat.zero_add] | rw [w_load_c] | rw [w_load_n] | rw [vO_some] | rw [w_store_c] | rw [w_not] | rw [w_lss] | rw [w_leq] | rw [w_gtr] | rw [w_geq] | rw [w_eql] | rw [w_neq] | rw [w_cint] | rw [w_min2_int] | rw [w_max2_int] | rw [w_add_in (by omega) (by omega)] | rw [w_sub_in (by omega) (by omega)] | rw [w_mul_in (by omega) (by omega)] | rw [outP_enter])
    refine fin ?_
    rw [List.take_of_length_le (by rw [ly]; omega)]
theorem rMids_wp {b : Nat} {s : AV} {Y : List Vq} (h : Vs H b s Y) (hd : ∀ y ∈ Y, 1 ≤ y.2.2.length) (n r : Int) (K : AV → AH → Prop)
    (hK : ∀ H' s' B Z, Ext [] H H' → H.next ≤ B → Zs H' B s' Z H.next → vals Z = midsM n r (vals Y) → K s' H') : CC.call 23 [.int .i64 n, .int .i64 r, s] H K := by
  refine m_fieldfareref1_Middles_ok _ _ _ _ _ ?_
  unfold m_fieldfareref1_Middles m_fieldfareref1_Middlest
  rw [w_min2_int, outP_val, w_max2_int, outP_val, w_min2_int, outP_val, w_max2_int, outP_val, show max 1 (min n 16) = (((min (max n 1) 16).toNat : Nat) : Int) by omega, show max 0 (min r 10) = (((min (max r 0) 10).toNat : Nat) : Int) by omega]
  unfold m_fieldfareref1_Middlestt
  refine rbegs_wp h hd _ _ (by omega) _ fun G s' B Z x hB hz hZ hl => ?_
  have hL := h.len
  refine rturns_wp h hd _ (by omega) x hB hz (by omega) (fun z q => ?_) _ fun H' Z' x' hz' hZ' => hK _ _ B Z' x' hB hz' (by rw [hZ', hZ]; rfl)
  have : z.2.2 ∈ begM (min (max n 1) 16).toNat (vals Y) := by rw [← hZ]; exact List.mem_map.2 ⟨z, q, rfl⟩
  obtain ⟨y, hy, e⟩ := List.mem_map.1 (begM_mem this)
  rw [← e]; exact ⟨hd y hy, h.short y hy⟩
end
end Go.Ab
