/- slices.Insert of one number, at any slice. -/
import Derived.Test.YtlbjmgpbgkiejaaGreatDoorInsP
import Derived.Test.YtlbjmgpbgkiejaaGreatDoorInsM
namespace Go.AbI
open Go.Ab
noncomputable section
open Go.Proofs
variable {H : AH}

theorem hit_sz : szOf PP 3 = some 1 := by kernel_rfl
theorem hit_sl : PP.underlying 54 = some (.slice 3) := Tryz.underlying54

/-- What stands there behind it. -/
structure InsPost (b n i : Nat) (L V : List AV) (H : AH) (r : AV) (H1 : AH) : Prop where
  ex : ∃ B o cap ex cs, r = .slice (some (B, o)) (n + 1) cap ex ∧ H1.get B = some (.cells 3 cs) ∧ n + 1 ≤ cap ∧ o + cap * 1 ≤ cs.length ∧ (cs.drop o).take ((n + 1) * 1) = L.take (i * 1) ++ (V ++ L.drop (i * 1)) ∧
    (∀ c, c ≠ b → c ≠ B → H1.get c = H.get c) ∧ (B = b ∨ B = H.next)
  next : H1.next ≤ H.next + 1

set_option maxRecDepth 100000 in
set_option maxHeartbeats 1000000 in
theorem ins_ev {b o n C i vb vo vc : Nat} {vx : Bool} {ve : TypeId} {cs vcs L V : List AV} (hb : H.get b = some (.cells 3 cs)) (hv : H.get vb = some (.cells ve vcs)) (hne : vb ≠ b) (hlt : b < H.next) (hlv : vb < H.next)
    (hi : i ≤ n) (hn : n ≤ C) (hlen : o + C * 1 ≤ cs.length) (hL : L = (cs.drop o).take (n * 1)) (hkn : L.all AV.known = true) (hV : V = (vcs.drop vo).take 1) (hvl : vo + 1 ≤ vcs.length) (hvk : V.all AV.known = true)
    (hu : isU8 PP ve = false) (hbig : (2 * (n + 1) + 1024) * 8 ≤ 281474976710656) (hn9 : n ≤ 999999999) :
    m_slices_Insert_int_int (InsPost b n i L V H) (.slice (some (b, o)) n C true) (.int .i64 i) (.slice (some (vb, vo)) 1 vc vx) H := by
  have hVl : V.length = 1 := by rw [hV, List.length_take, List.length_drop]; omega
  have hVne : V ≠ [] := fun e => by rw [e] at hVl; cases hVl
  have hLl : L.length = n * 1 := by rw [hL, List.length_take, List.length_drop]; omega
  have hil : i * 1 ≤ L.length := by omega
  have hfl : (L.take (i * 1) ++ (V ++ L.drop (i * 1))).length = (n + 1) * 1 := by rw [insert_length _ _ _ hil, hLl, hVl]; omega
  have sV : ∀ G : AH, G.get vb = some (.cells ve vcs) → sliceCells G 1 1 (.slice (some (vb, vo)) 1 vc vx) = some V := fun G hG => sliceCells_cells hG (Nat.le_refl _) (by omega) (by rw [hV]) hvk
  have sI : ∀ G : AH, G.get b = some (.cells 3 cs) → ∀ (m k q : Nat) (x : Bool), m = n - i → m ≤ k → sliceCells G 1 m (.slice (some (b, o + i * 1)) k q x) = some (L.drop (i * 1)) := by
    intro G hG m k q x hm hmk
    subst hm
    refine sliceCells_cells hG hmk (by omega) (seg_eq (by rw [List.length_drop]; omega) fun j hj => ?_) (List.all_eq_true.2 fun x hx => List.all_eq_true.1 hkn x (List.mem_of_mem_drop hx))
    rw [List.getElem?_drop, seg_get hL (by omega)]; congr 1; omega
  unfold m_slices_Insert_int_int
  refine st (w_slice_ex (some (.i64, i)) none (by simpa [loN] using hi) (by simpa [loN] using hn)) ?_
  refine st (w_len_sl hit_sl _ _ _ _) ?_
  refine st (w_eql _ _ _) ?_
  refine condF (by decide) ?_
  refine st (w_len_sl hit_sl _ _ _ _) ?_
  refine st (w_eql _ _ _) ?_
  by_cases hin : i = n
  · subst hin
    refine condT rfl ?_
    by_cases hr : i + 1 ≤ C
    · refine st (w_append_room (by rfl) (sV H hv) hr hb hVne (by rw [hVl]; omega)) ?_
      refine ⟨⟨b, o, C, true, _, rfl, by rw [AH.get_put, if_pos rfl], hr, ?_, seg_eq hfl fun j hj => ?_, fun c h1 _ => by rw [AH.get_put, if_neg h1], .inl rfl⟩, by rw [AH.next_put]; omega⟩
      · rw [splice_length _ _ _ (by rw [hVl]; omega)]; exact hlen
      · rw [splice_get _ _ _ _ (by rw [hVl]; omega), insert_get _ _ _ _ hil, hVl]
        by_cases c1 : j < i * 1
        · rw [if_pos (by omega), if_pos c1, seg_get hL c1]
        · rw [if_neg (by omega), if_neg c1, if_pos (by omega), if_pos (by omega)]; congr 1; omega
    · refine st (w_append_grow (L := L) (by rfl) (sV H hv) (by omega) hbig (sliceCells_cells hb (Nat.le_refl _) (by omega) hL.symm hkn)) ?_
      refine ⟨⟨H.next, 0, i + 1, false, _, rfl, get_new_same _ _, Nat.le_refl _, ?_, ?_, fun c _ h2 => by rw [get_new, if_neg h2], .inr rfl⟩, Nat.le_refl _⟩
      · simp only [List.length_append, hLl, hVl]; omega
      · have e1 : L.take (i * 1) = L := List.take_of_length_le (by omega)
        have e2 : L.drop (i * 1) = [] := List.drop_eq_nil_of_le (by omega)
        rw [e1, e2, List.append_nil, List.drop_zero, List.take_of_length_le (by simp only [List.length_append, hLl, hVl]; omega)]
  · refine condF (by omega) ?_
    have hlt2 : i < n := by omega
    have hDl : (L.drop (i * 1)).length = (n - i) * 1 := by rw [List.length_drop]; omega
    have hDne : L.drop (i * 1) ≠ [] := fun e => by rw [e] at hDl; simp at hDl; omega
    refine st (w_add_nat (by omega)) ?_
    refine st (w_cap_sl hit_sl _ _ _) ?_
    refine st (w_gtr _ _ _) ?_
    have hCi : ¬ C = i := by omega
    have hCi1 : n + 1 ≤ C → ¬ C = i + 1 := by omega
    have hc0 : ¬ C = 0 := by omega
    by_cases hr : C < n + 1
    · -- a new row
      refine condT (by omega) ?_
      refine st (w_slice_ex none (some (.i64, i)) (by simp [loN]) (by simp only [loN]; omega)) ?_
      simp only [loN, hc0, if_false, Nat.zero_mul, Nat.add_zero, Nat.sub_zero]
      refine st (w_add_nat (by omega)) ?_
      refine st (w_sub_nat (a := n + 1) (b := i) (by omega) (by omega)) ?_
      have hLi : sliceCells H 1 i (.slice (some (b, o)) i C true) = some (L.take (i * 1)) := by
        refine sliceCells_cells hb (Nat.le_refl _) (by omega) ?_ (List.all_eq_true.2 fun x hx => List.all_eq_true.1 hkn x (List.mem_of_mem_take hx))
        rw [hL, List.take_take]; congr 1; omega
      refine st (w_appendZ_grow (by omega) (by omega) (by omega) (by omega) hLi) ?_
      have e1 : i + (n + 1 - i) = n + 1 := by omega
      rw [e1]
      have hz : (reps (n + 1 - i) [AV.int .i64 0]).length = (n + 1 - i) * 1 := reps_length _ _
      generalize reps (n + 1 - i) [AV.int .i64 0] = Z at hz ⊢
      have hT : (L.take (i * 1)).length = i * 1 := by rw [List.length_take]; omega
      have hR0 : (L.take (i * 1) ++ Z).length = (n + 1) * 1 := by rw [List.length_append, hT, hz]; omega
      generalize hR : L.take (i * 1) ++ Z = R at hR0 ⊢
      have gR : ∀ j, j < i * 1 → R[j]? = L[j]? := fun j hj => by rw [← hR, List.getElem?_append_left (by omega), List.getElem?_take, if_pos hj]
      have g1 : (H.new (.cells 3 R)).get H.next = some (.cells 3 R) := get_new_same _ _
      have gv1 : (H.new (.cells 3 R)).get vb = some (.cells ve vcs) := by rw [get_new, if_neg (by omega)]; exact hv
      refine st (w_slice_op (some (.i64, i)) none (by simp only [loN]; omega) (by simp only [loN]; omega) (by simp only [loN]; omega)) ?_
      simp only [loN, Nat.zero_add]
      refine st (w_copy_of (m := 1) hit_sl hit_sz (by rfl) (by omega) (sV _ gv1) g1 hVne (by rw [hVl]; omega)) ?_
      have hR1 : (R.take (i * 1) ++ (V ++ R.drop (i * 1 + V.length))).length = (n + 1) * 1 := by rw [splice_length _ _ _ (by rw [hVl]; omega)]; exact hR0
      have gR1 : ∀ j, (R.take (i * 1) ++ (V ++ R.drop (i * 1 + V.length)))[j]? = _ := fun j => splice_get R V (i * 1) j (by rw [hVl]; omega)
      generalize R.take (i * 1) ++ (V ++ R.drop (i * 1 + V.length)) = R1 at hR1 gR1 ⊢
      refine st (w_add_nat (by omega)) ?_
      refine st (w_slice_op (some (.i64, i + 1)) none (by simp only [loN]; omega) (by simp only [loN]; omega) (by simp only [loN]; omega)) ?_
      refine st (w_slice_ex (some (.i64, i)) none (by simp only [loN]; omega) (by simp only [loN]; omega)) ?_
      simp only [loN, Nat.zero_add, hCi, if_false]
      have gb1 : ((H.new (.cells 3 R)).put H.next (some (.cells 3 R1))).get b = some (.cells 3 cs) := by rw [AH.get_put, if_neg (by omega), get_new, if_neg (by omega)]; exact hb
      refine st (w_copy_of (m := n - i) hit_sl hit_sz (by rfl) (by omega) (sI _ gb1 _ _ _ _ rfl (Nat.le_refl _)) (by rw [AH.get_put, if_pos rfl]) hDne (by rw [hDl]; omega)) ?_
      refine ⟨⟨H.next, 0, n + 1, false, _, rfl, by rw [AH.get_put, if_pos rfl], Nat.le_refl _, ?_, seg_eq hfl fun j hj => ?_, fun c _ h2 => by rw [AH.get_put, if_neg h2, AH.get_put, if_neg h2, get_new, if_neg h2], .inr rfl⟩, Nat.le_refl _⟩
      · rw [splice_length _ _ _ (by rw [hDl]; omega)]; omega
      · rw [Nat.zero_add, splice_get _ _ _ _ (by rw [hDl]; omega), insert_get _ _ _ _ hil, gR1, hVl, hDl]
        by_cases c1 : j < i * 1
        · rw [if_pos (by omega), if_pos c1, if_pos c1, gR j c1]
        · by_cases c2 : j < i * 1 + 1
          · rw [if_pos (by omega), if_neg c1, if_pos c2, if_neg c1, if_pos c2]
          · rw [if_neg (by omega), if_pos (by omega), if_neg c1, if_neg c2, List.getElem?_drop]; congr 1; omega
    · -- in place
      refine condF (by omega) ?_
      refine st (w_add_nat (by omega)) ?_
      refine st (w_slice_ex none (some (.i64, n + 1)) (by simp [loN]) (by simp only [loN]; omega)) ?_
      simp only [loN, hc0, if_false, Nat.zero_mul, Nat.add_zero, Nat.sub_zero]
      refine st (w_add_nat (by omega)) ?_
      refine st (w_slice_ex (some (.i64, i + 1)) none (by simp only [loN]; omega) (by simp only [loN]; omega)) ?_
      simp only [loN, hCi1 (by omega), if_false]
      refine prim_wp (P := PP) (prim := prims0) (g := overlapsA PP 54) (v := .bool false) (H' := H) (by kernel_rfl) ?_ ?_
      · have e1 : Nat.beq vb b = false := Bool.eq_false_iff.2 fun q => hne (Nat.eq_of_beq_eq_true q)
        have e2 : slT PP 54 = some 3 := by simp only [slT, hit_sl]
        have e3 : Nat.blt vo vcs.length = true := by rw [Nat.blt_eq]; omega
        have e4 : Nat.blt 0 cs.length = true := by rw [Nat.blt_eq]; omega
        simp only [overlapsA, e1, br_false, hv, hb, e2, hu, e3, e4, br_true, hit_sz, ob_some]
      refine st (w_not _) ?_
      refine condB rfl ?_
      refine st (w_add_nat (by omega)) ?_
      refine st (w_slice_ex (some (.i64, i + 1)) none (by simp only [loN]; omega) (by simp only [loN]; omega)) ?_
      refine st (w_slice_ex (some (.i64, i)) none (by simp only [loN]; omega) (by simp only [loN]; omega)) ?_
      simp only [loN, hCi1 (by omega), hCi, if_false]
      refine st (w_copy_of (m := n - i) hit_sl hit_sz (by rfl) (by omega) (sI _ hb _ _ _ _ rfl (by omega)) hb hDne (by rw [hDl]; omega)) ?_
      have hR1 : (cs.take (o + (i + 1) * 1) ++ (L.drop (i * 1) ++ cs.drop (o + (i + 1) * 1 + (L.drop (i * 1)).length))).length = cs.length := splice_length _ _ _ (by rw [hDl]; omega)
      have gR1 : ∀ j, (cs.take (o + (i + 1) * 1) ++ (L.drop (i * 1) ++ cs.drop (o + (i + 1) * 1 + (L.drop (i * 1)).length)))[j]? = _ := fun j => splice_get cs _ _ j (by rw [hDl]; omega)
      generalize cs.take (o + (i + 1) * 1) ++ (L.drop (i * 1) ++ cs.drop (o + (i + 1) * 1 + (L.drop (i * 1)).length)) = R1 at hR1 gR1 ⊢
      refine st (w_slice_ex (some (.i64, i)) none (by simp only [loN]; omega) (by simp only [loN]; omega)) ?_
      simp only [loN, hCi, if_false]
      have gv1 : (H.put b (some (.cells 3 R1))).get vb = some (.cells ve vcs) := by rw [AH.get_put, if_neg hne]; exact hv
      refine st (w_copy_of (m := 1) hit_sl hit_sz (by rfl) (by omega) (sV _ gv1) (by rw [AH.get_put, if_pos rfl]) hVne (by rw [hVl, hR1]; omega)) ?_
      refine ⟨⟨b, o, C, true, _, rfl, by rw [AH.get_put, if_pos rfl], by omega, ?_, seg_eq hfl fun j hj => ?_, fun c h1 _ => by rw [AH.get_put, if_neg h1, AH.get_put, if_neg h1], .inl rfl⟩, by rw [AH.next_put, AH.next_put]; omega⟩
      · rw [splice_length _ _ _ (by rw [hVl, hR1]; omega), hR1]; exact hlen
      · rw [splice_get _ _ _ _ (by rw [hVl, hR1]; omega), insert_get _ _ _ _ hil, gR1, hVl, hDl]
        by_cases c1 : j < i * 1
        · rw [if_pos (by omega), if_pos (by omega), if_pos c1, seg_get hL (by omega)]
        · by_cases c2 : j < i * 1 + 1
          · rw [if_neg (by omega), if_pos (by omega), if_neg c1, if_pos c2]; congr 1; omega
          · rw [if_neg (by omega), if_neg (by omega), if_neg (by omega), if_pos (by omega), if_neg c1, if_neg c2, List.getElem?_drop]; congr 1; omega

/-- slices.Insert of one number, told of an open slice (or of none). -/
def insertA (args : List AV) (H : AH) : Option (AV × AH) := match args with
  | [s, .int .i64 iz, .slice (some (vb, vo)) 1 _ _] => ob (natZ iz) fun i => match H.get vb with
    | some (.cells ve vcs) => br (isU8 PP ve) none (br (Nat.ble (vo + 1) vcs.length) (br (allB AV.known ((vcs.drop vo).take 1)) (match s with
      | .slice none 0 0 true => br (Nat.beq i 0) (some (.slice (some (H.next + 8, 0)) 1 1 false, (H.put (H.next + 8) (some (.cells 3 ((vcs.drop vo).take 1)))).upTo (H.next + 9))) none
      | .slice (some (b, o)) n c false => br (Nat.beq vb b) none (match H.get b with
        | some (.cells e cs) => br (Nat.beq e 3) (br (Nat.ble i n) (br (Nat.ble n c) (br (Nat.beq cs.length (o + c * 1)) (br (Nat.ble n 1000000) (br (allB AV.known ((cs.drop o).take (n * 1)))
            (some (.slice (some (H.next + 8, 0)) (n + 1) (n + 1) false, ((H.put b none).put (H.next + 8) (some (.cells 3 (((cs.drop o).take (n * 1)).take (i * 1) ++ ((vcs.drop vo).take 1 ++ ((cs.drop o).take (n * 1)).drop (i * 1)))))).upTo (H.next + 9)))
            none) none) none) none) none) none
        | _ => none)
      | _ => none) none) none)
    | _ => none
  | _ => none

set_option maxRecDepth 100000 in
theorem m_nil {vb vo vc : Nat} {vx : Bool} {ve : TypeId} {vcs V : List AV} (hv : H.get vb = some (.cells ve vcs)) (hV : V = (vcs.drop vo).take 1) (hvl : vo + 1 ≤ vcs.length) (hvk : V.all AV.known = true) (K : AV → AH → Prop)
    (hK : K (.slice (some (H.next, 0)) 1 1 false) (H.new (.cells 3 V))) : m_slices_Insert_int_int K (.slice none 0 0 true) (.int .i64 (0 : Nat)) (.slice (some (vb, vo)) 1 vc vx) H := by
  unfold m_slices_Insert_int_int
  refine st (v := .slice none 0 0 true) (by rfl) ?_
  refine st (w_len_sl hit_sl _ _ _ _) ?_
  refine st (w_eql _ _ _) ?_
  refine condF (by decide) ?_
  refine st (w_len_sl hit_sl _ _ _ _) ?_
  refine st (w_eql _ _ _) ?_
  refine condT rfl ?_
  refine st (w_append_grow (L := []) (V := V) (m := 1) (by rfl) (sliceCells_cells hv (Nat.le_refl _) (by omega) (by rw [hV]) hvk) (by omega) (by omega) (by rfl)) ?_
  exact hK

theorem evn_call {K : AV → AH → Prop} {f : FuncId} {args : List AV} (h : C0.call f args H K) : ∃ n v H', evCall PP prims0 n f args H = some (v, H') ∧ K v H' := by
  obtain ⟨n, v, H', h1, h2⟩ := h
  exact ⟨n, v, H', h1 n (Nat.le_refl _), h2⟩

theorem ins_body : hasBody PP 249 = true := by kernel_rfl
theorem hit_cells : PP.cellsOf 3 = 1 := cellsOf_eq hit_sz

set_option maxRecDepth 100000 in
set_option maxHeartbeats 1000000 in
theorem ins_at : PrimAt PP 249 insertA := by
  intro args args' ρ H w v H' hg hr ha
  refine ⟨fun _ m => ?_, fun q => (by rw [ins_body] at q; cases q)⟩
  unfold insertA at hg
  split at hg
  case h_2 => cases hg
  rename_i s iz vb vo vc vx
  rw [ob_eq_some] at hg
  obtain ⟨i, hi, hg⟩ := hg
  rw [natZ_eq_some] at hi
  subst hi
  split at hg
  case h_2 => cases hg
  rename_i ve vcs hv
  rw [br_none_some, br_some_none, br_some_none, Nat.ble_eq, allB_eq] at hg
  obtain ⟨hu, hvl, hvk, hg⟩ := hg
  have hvlt : vb < H.next := by
    rcases Nat.lt_or_ge vb H.next with q | q
    · exact q
    · have := id_dead hr (hr.fresh vb q); rw [hv] at this; cases this
  split at hg
  · -- none
    rw [br_some_none] at hg
    obtain ⟨hi0, hg⟩ := hg
    obtain rfl := Nat.eq_of_beq_eq_true hi0
    simp only [Option.some.injEq, Prod.mk.injEq] at hg
    obtain ⟨rfl, rfl⟩ := hg
    have hm := m_slices_Insert_int_int_ok _ _ _ H _ (m_nil hv rfl hvl hvk (fun r H1 => r = .slice (some (H.next, 0)) 1 1 false ∧ H1 = H.new (.cells 3 ((vcs.drop vo).take 1))) ⟨rfl, rfl⟩ (vc := vc) (vx := vx))
    obtain ⟨k, r, H1, hev, rfl, rfl⟩ := evn_call hm
    have hc := ((ev_ok prims0_ok seat_mixed (progOk_regs seat_ok) k).call hev hr ha).1 ins_body m
    refine hc.mono fun e w' hret => ?_
    unfold Ret at hret ⊢
    cases e with
    | returned v' =>
      obtain ⟨ρ1, q1, g⟩ := hret
      obtain ⟨ρ', q2, q3⟩ := g.shutDown (N := H.next + 8) (sz := 1) (L := (vcs.drop vo).take 1) (H2 := (H.put (H.next + 8) (some (.cells 3 ((vcs.drop vo).take 1)))).upTo (H.next + 9)) (get_new_same _ _) hit_cells
        (by rw [List.drop_zero, List.take_take]; rfl) (Nat.le_refl _) (by rw [List.length_take, List.length_drop]; omega) (by rw [next_new]; omega) q1 rfl (fun c x hx => by
          rw [get_upTo, AH.get_put] at hx
          split at hx
          · cases hx; exact .inl ⟨by assumption, rfl⟩
          · rename_i hne
            have hcn : c ≠ H.next := fun q => by
              subst q
              have := id_dead hr (hr.fresh H.next (Nat.le_refl _)); rw [hx] at this; cases this
            exact .inr ⟨hne, hcn, by rw [get_new, if_neg hcn]; exact hx⟩)
      exact ⟨ρ', q2, q3⟩
    | _ => exact hret.elim
  · -- an open slice
    rename_i b o n c
    rw [br_none_some] at hg
    obtain ⟨hne, hg⟩ := hg
    have hne : vb ≠ b := fun q => by subst q; rw [show Nat.beq vb vb = true from Nat.beq_refl vb] at hne; cases hne
    split at hg
    case h_2 => cases hg
    rename_i e cs hb
    rw [br_some_none, br_some_none, br_some_none, br_some_none, br_some_none, br_some_none, Nat.ble_eq, Nat.ble_eq, Nat.ble_eq, allB_eq] at hg
    obtain ⟨he, hin, hnc, hlen, hn6, hkn, hg⟩ := hg
    obtain rfl := Nat.eq_of_beq_eq_true he
    have hlen := Nat.eq_of_beq_eq_true hlen
    simp only [Option.some.injEq, Prod.mk.injEq] at hg
    obtain ⟨rfl, rfl⟩ := hg
    obtain ⟨l, hl⟩ := (hr.lies b _ hb).loc
    have hblt : b < H.next := by
      rcases Nat.lt_or_ge b H.next with q | q
      · exact q
      · have := id_dead hr (hr.fresh b q); rw [hb] at this; cases this
    have g0 := hr.openUp hb hl
    rw [hit_cells] at g0
    generalize hH1 : newH (H.put b none) none (.cells 3 (cs ++ List.replicate (l.spare * 1) .any)) = H1 at g0
    have gget : ∀ c, H1.get c = if c = H.next then some (.cells 3 (cs ++ List.replicate (l.spare * 1) .any)) else if c = b then none else H.get c := by
      intro c
      rw [← hH1, get_newH, AH.get_put]; rfl
    have gnext : H1.next = H.next + 1 := by rw [← hH1]; simp [newH, AH.newTo_none]
    have g1 : H1.get H.next = some (.cells 3 (cs ++ List.replicate (l.spare * 1) .any)) := by rw [gget, if_pos rfl]
    have gv : H1.get vb = some (.cells ve vcs) := by rw [gget, if_neg (by omega), if_neg hne]; exact hv
    -- the slice, its room known
    obtain ⟨y1, ys1, e1, r1, y2, ys2, rfl, r2, y3, ys3, rfl, r3, e2⟩ := ha
    cases e2
    have : args' = #[y1, y2, y3] := by apply Array.ext'; simpa using e1
    subst this
    have hle := g0.ev.le
    obtain ⟨l', hl', hy1⟩ := rel_slice r1
    rw [hl] at hl'; cases hl'
    simp only [Bool.false_eq_true, if_false] at hy1
    have ra : RelL (ρ.with H.next ⟨l.blk, l.off, 0⟩) [.slice (some (H.next, o)) n (c + l.spare) true, .int .i64 i, .slice (some (vb, vo)) 1 vc vx] #[y1, y2, y3].toList :=
      .cons ⟨_, with_same _ _, by rw [hy1]; simp⟩ (.cons (r2.mono hle) (.cons (r3.mono hle) rfl))
    have hseg : (cs.drop o).take (n * 1) = ((cs ++ List.replicate (l.spare * 1) AV.any).drop o).take (n * 1) := by
      symm
      refine seg_eq (by rw [List.length_take, List.length_drop]; omega) fun j hj => ?_
      rw [List.getElem?_append_left (by omega), seg_get rfl hj]
    have hm := m_slices_Insert_int_int_ok _ _ _ H1 _ (ins_ev (H := H1) (b := H.next) (o := o) (n := n) (C := c + l.spare) (i := i) (vb := vb) (vo := vo) (vc := vc) (vx := vx) g1 gv (by omega) (by omega) (by omega) hin (by omega)
      (by rw [List.length_append, List.length_replicate, hlen]; omega) hseg hkn rfl hvl hvk hu (by omega) (by omega))
    obtain ⟨k, r, H2, hev, hpost⟩ := evn_call hm
    have hc := ((ev_ok prims0_ok seat_mixed (progOk_regs seat_ok) k).call hev g0.real ra).1 ins_body m
    refine hc.mono fun e w' hret => ?_
    unfold Ret at hret ⊢
    cases e with
    | returned v' =>
      obtain ⟨ρ1, q1, g⟩ := hret
      obtain ⟨⟨B, o1, cap, ex, cs1, rfl, hB, hk1, hcap, hcont, hoth, hBor⟩, hnx⟩ := hpost
      obtain ⟨ρ', q2, q3⟩ := (g0.trans g).shutDown (N := H.next + 8) (sz := 1) (H2 := ((H.put b none).put (H.next + 8) (some (.cells 3 (((cs.drop o).take (n * 1)).take (i * 1) ++ ((vcs.drop vo).take 1 ++ ((cs.drop o).take (n * 1)).drop (i * 1)))))).upTo (H.next + 9))
        hB hit_cells hcont.symm hk1 hcap (by rw [gnext] at hnx; omega) q1 rfl (fun c x hx => by
          rw [get_upTo, AH.get_put] at hx
          split at hx
          · cases hx; exact .inl ⟨by assumption, rfl⟩
          · rename_i hcN
            rw [AH.get_put] at hx
            split at hx
            · cases hx
            · rename_i hcb
              have hclt : c < H.next := by
                rcases Nat.lt_or_ge c H.next with q | q
                · exact q
                · have := id_dead hr (hr.fresh c q); rw [hx] at this; cases this
              have hcB : c ≠ B := fun q => by rcases hBor with h | h <;> omega
              exact .inr ⟨hcN, hcB, by rw [hoth c (by omega) hcB, gget, if_neg (by omega), if_neg hcb]; exact hx⟩)
      exact ⟨ρ', q2, q3⟩
    | _ => exact hret.elim
  · cases hg
end
end Go.AbI
