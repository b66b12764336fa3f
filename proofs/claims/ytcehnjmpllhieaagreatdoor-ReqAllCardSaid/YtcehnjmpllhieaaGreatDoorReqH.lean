/- Requests are read. -/
import Derived.Test.YtcehnjmpllhieaaGreatDoorReqC
import Derived.Test.YtcehnjmpllhieaaGreatDoorMC
namespace Go.Ab
noncomputable section
open Go.Proofs
set_option maxRecDepth 10000
variable {H H' : AH}

/-! A text. -/
def textR (m : Int) (st : List Int × Bool) : List UInt8 × (List Int × Bool) :=
  if (stepR st).2.2 = true then ([], (stepR st).2)
  else if (stepR st).1 < 0 ∨ m < (stepR st).1 ∨ ((stepR st).2.1.length : Int) < (stepR st).1 then ([], ((stepR st).2.1, true))
  else (toT ((stepR st).2.1.take (stepR st).1.toNat), ((stepR st).2.1.drop (stepR st).1.toNat, false))
theorem textR_len (m : Int) (st : List Int × Bool) : (textR m st).2.1.length ≤ st.1.length := by
  have h := step_len st
  unfold textR
  split
  · exact h
  · split
    · exact h
    · simp only [List.length_drop]; omega
theorem textR_bad (m : Int) (B : List Int) : (textR m (B, true)).2.2 = true := rfl
theorem textR_some {m : Int} {B R : List Int} {t : List UInt8} (h : pText m B = some (t, R)) : textR m (B, false) = (t, (R, false)) := by
  obtain ⟨p, h1, h2⟩ := bind_some' h
  obtain ⟨n, Q⟩ := p
  split at h2
  case isFalse => cases h2
  rename_i c
  cases h2
  unfold textR
  rw [step_some h1]
  simp only at c ⊢
  rw [if_neg Bool.false_ne_true, if_neg (by omega)]
theorem textR_none {m : Int} {B : List Int} (h : pText m B = none) : (textR m (B, false)).2.2 = true := by
  unfold textR
  cases hd : decB B with
  | none => rw [step_none hd]; rfl
  | some p =>
    obtain ⟨n, Q⟩ := p
    rw [step_some hd]
    have h : (decB B).bind _ = none := h
    rw [hd, Option.bind_some] at h
    simp only at h ⊢
    rw [if_neg Bool.false_ne_true]
    split at h
    · cases h
    · rw [if_pos (by omega)]
theorem rText_wp {H0 : AH} {rp : Nat} {B : List Int} {bad : Bool} (h : Rx H0 H rp B bad) (hB : B.length ≤ 10000) (m : Int) (K : AV → AH → Prop) (hK : ∀ H', Ext [rp] H H' → Rx H0 H' rp (textR m (B, bad)).2.1 (textR m (B, bad)).2.2 → K (.str (textR m (B, bad)).1) H') :
    CC.call 57 [.ptr (some (rp, 0)), .int .i64 m] H K := by
  refine m_bin_Reader_Text_ok _ _ _ _ ?_
  unfold m_bin_Reader_Text
  rw [outP_enter]
  refine rInt_wp h (by omega) _ fun G1 e1 r1 i1 => ?_
  have sl := step_len (B, bad)
  rw [outP_enter]
  refine err_wp r1 _ ?_
  unfold textR at hK
  generalize stepR (B, bad) = q at *
  obtain ⟨n, R, bad⟩ := q
  simp only at r1 i1 sl hK ⊢
  cases bad with
  | true =>
    rw [if_pos rfl]
    rw [if_pos rfl] at hK
    have d : decide ((1 : Int) = 0) = false := rfl
    repeat (first | rw [outP_val] | rw [condP_true] | rw [d] | rw [Bool.not_false] | rw [w_neq])
    exact hK _ e1 r1
  | false =>
    rw [if_neg Bool.false_ne_true]
    rw [if_neg Bool.false_ne_true] at hK
    have d : decide ((0 : Int) = 0) = true := rfl
    obtain ⟨Bb, s, l0, l1, gp, is, hne⟩ := r1.ld
    have ln := is.len u8_sl
    obtain ⟨G2, st2, r2, x2⟩ := r1.spoil
    have sp := e1.trans x2
    by_cases c1 : n < 0
    · have d1 := decide_eq_true c1
      rw [if_pos (.inl c1)] at hK
      repeat (first | rw [outP_val] | rw [guardP_false] | rw [condP_true] | rw [d] | rw [d1] | rw [st2] | rw [condP_false] | rw [boolIs_bool] | rw [beq_ff] | rw [Bool.not_true] | rw [outP_skip] | rw [w_pick_b] | rw [if_pos rfl] | rw [w_fieldAddr_ptr] | rw [w_nil_ptr] | rw [w_lss] | rw [w_neq])
      exact hK _ sp r2
    have d1 := decide_eq_false c1
    by_cases c2 : m < n
    · have d2 := decide_eq_true c2
      rw [if_pos (.inr (.inl c2))] at hK
      repeat (first | rw [outP_val] | rw [guardP_true] | rw [guardP_false] | rw [condP_true] | rw [d] | rw [d1] | rw [d2] | rw [st2] | rw [condP_false] | rw [boolIs_bool] | rw [beq_ff] | rw [Bool.not_true] | rw [Bool.not_false] | rw [outP_skip] | rw [w_pick_b] | rw [if_pos rfl] | rw [if_neg Bool.false_ne_true] | rw [w_fieldAddr_ptr] | rw [w_nil_ptr] | rw [w_lss] | rw [w_gtr] | rw [w_neq])
      exact hK _ sp r2
    have d2 := decide_eq_false c2
    by_cases c3 : (R.length : Int) < n
    · have d3 := decide_eq_true c3
      rw [if_pos (.inr (.inr c3))] at hK
      repeat (first | rw [outP_val] | rw [guardP_true] | rw [condP_true] | rw [d] | rw [d1] | rw [d2] | rw [l0] | rw [ln] | rw [d3] | rw [st2] | rw [condP_false] | rw [boolIs_bool] | rw [beq_ff] | rw [Bool.not_true] | rw [Bool.not_false] | rw [outP_skip] | rw [w_pick_b] | rw [if_neg Bool.false_ne_true] | rw [w_fieldAddr_ptr] | rw [w_nil_ptr] | rw [Nat.zero_add] | rw [w_load_c] | rw [vO_some] | rw [w_lss] | rw [w_gtr] | rw [w_neq])
      exact hK _ sp r2
    have d3 := decide_eq_false c3
    rw [if_neg (by omega)] at hK
    obtain ⟨k, rfl⟩ : ∃ k : Nat, n = k := ⟨n.toNat, by omega⟩
    rw [Int.toNat_natCast] at hK
    obtain ⟨s2, q1, q2⟩ := is.cut k (by omega)
    obtain ⟨s3, G3, p1, p2, p3, p4⟩ := r1.step (k := k) (by omega)
    have ct := conv_text q2
    repeat (first | rw [outP_val] | rw [guardP_true] | rw [d] | rw [d1] | rw [d2] | rw [l0] | rw [ln] | rw [d3] | rw [q1] | rw [ct] | rw [p1 _ _ l0] | rw [p2] | rw [condP_false] | rw [boolIs_bool] | rw [beq_ff] | rw [Bool.not_true] | rw [Bool.not_false] | rw [outP_skip] | rw [w_pick_b] | rw [if_neg Bool.false_ne_true] | rw [w_fieldAddr_ptr] | rw [w_nil_ptr] | rw [Nat.zero_add] | rw [w_load_c] | rw [vO_some] | rw [w_lss] | rw [w_gtr] | rw [w_neq])
    exact hK _ (e1.trans p4) p3

/-! The request's reader. -/
structure RQ (H0 H : AH) (rp qp : Nat) (st : Option (List Int)) : Prop where
  ex : ∃ B rb qb, Rx H0 H rp B rb ∧ B.length ≤ 10000 ∧ H.get qp = some (.cells 100 [.ptr (some (rp, 0)), .bool qb]) ∧ (∀ C, st = some C → C = B ∧ rb = false ∧ qb = false) ∧ (st = none → rb = true ∨ qb = true)
  lt : rp < qp
  lt2 : qp < H.next
theorem RQ.hi {H0 : AH} {rp qp : Nat} {st : Option (List Int)} (h : RQ H0 H rp qp st) {m : List Nat} (e : Ext m H H') (hm : ∀ b ∈ m, qp < b) : RQ H0 H' rp qp st := by
  obtain ⟨B, rb, qb, h1, h2, h3, h4, h5⟩ := h.ex
  have hl := h.lt
  exact ⟨⟨B, rb, qb, h1.hi e fun b hb => by have := hm b hb; omega, h2, e.get h.lt2 (fun q => by have := hm _ q; omega) h3, h4, h5⟩, hl, Nat.lt_of_lt_of_le h.lt2 e.next⟩
theorem RQ.ldr {H0 : AH} {rp qp : Nat} {st : Option (List Int)} (h : RQ H0 H rp qp st) : ldV (H.get qp) 0 = some (.ptr (some (rp, 0))) := by
  obtain ⟨B, rb, qb, h1, h2, h3, _⟩ := h.ex
  rw [h3]; rfl
theorem beq_ptr (p : Nat × Nat) : AV.beq (.ptr (some p)) (.ptr (some p)) = true := by obtain ⟨a, b⟩ := p; simp [AV.beq]
theorem qNum_wp {H0 : AH} {rp qp : Nat} {st : Option (List Int)} (h : RQ H0 H rp qp st) (m : Int) (K : AV → AH → Prop) (hK : ∀ H' n, Ext [rp, qp] H H' → I64 n → RQ H0 H' rp qp ((st.bind (pNum m)).map (·.2)) → (∀ p, st.bind (pNum m) = some p → n = p.1) → K (.int .i64 n) H') :
    CC.call 58 [.ptr (some (qp, 0)), .int .i64 m] H K := by
  refine m_req_reader_number_ok _ _ _ _ ?_
  unfold m_req_reader_number
  obtain ⟨B, rb, qb, h1, h2, h3, h4, h5⟩ := h.ex
  have hl := h.lt
  have hl2 := h.lt2
  have l0 := h.ldr
  rw [w_nil_ptr, outP_val, w_fieldAddr_ptr, outP_val, w_load_c, Nat.zero_add, l0, vO_some, outP_val, outP_enter]
  refine rInt_wp h1 (by omega) _ fun G1 e1 r1 i1 => ?_
  have g1 : G1.get qp = _ := e1.get hl2 (by simp; omega) h3
  have l1 : ldV (G1.get qp) 1 = some (.bool qb) := by rw [g1]; rfl
  have sl := step_len (B, rb)
  simp only at sl
  have n1 := e1.next
  have fin : ∀ q : Bool, q = (qb || decide ((stepR (B, rb)).1 < 0) || decide (m < (stepR (B, rb)).1)) → K (.int .i64 (stepR (B, rb)).1) (G1.put qp (some (.cells 100 [.ptr (some (rp, 0)), .bool q]))) := by
    intro q hq
    have x2 : Ext [qp] G1 (G1.put qp (some (.cells 100 [.ptr (some (rp, 0)), .bool q]))) := (Ext.refl _ _).put (.inr (by simp)) _
    refine hK _ _ ((e1.mono (by simp)).trans (x2.mono (by simp))) i1 ⟨⟨_, _, q, r1.hi x2 (by simp; omega), by omega, get_put_same _ _, fun C hC => ?_, fun hn => ?_⟩, hl, by rw [AH.next_put]; omega⟩ fun p hp => ?_
    · obtain ⟨p, hp, rfl⟩ := Option.map_eq_some_iff.1 hC
      obtain ⟨C0, rfl, hp⟩ := bind_some' hp
      obtain ⟨rfl, rfl, rfl⟩ := h4 C0 rfl
      obtain ⟨a, ha, hp⟩ := bind_some' (x := decB C0) hp
      split at hp
      case isFalse => cases hp
      rename_i c
      cases hp
      rw [step_some ha] at hq ⊢
      refine ⟨rfl, rfl, ?_⟩
      rw [hq, Bool.false_or, decide_eq_false (by omega), decide_eq_false (by omega)]; rfl
    · rw [Option.map_eq_none_iff] at hn
      cases st with
      | none =>
        rcases h5 rfl with rfl | rfl
        · exact .inl rfl
        · right; rw [hq]; rfl
      | some C0 =>
        obtain ⟨rfl, rfl, rfl⟩ := h4 C0 rfl
        have hn : (decB C0).bind _ = none := hn
        cases hd : decB C0 with
        | none => rw [step_none hd]; exact .inl rfl
        | some a =>
          obtain ⟨z, Q⟩ := a
          rw [hd, Option.bind_some] at hn
          split at hn
          · cases hn
          · rename_i c
            right
            rw [hq, step_some hd, Bool.false_or, Bool.or_eq_true, decide_eq_true_eq, decide_eq_true_eq]
            simp only at c ⊢
            omega
    · obtain ⟨C0, rfl, hp⟩ := bind_some' hp
      obtain ⟨rfl, rfl, rfl⟩ := h4 C0 rfl
      obtain ⟨a, ha, hp⟩ := bind_some' (x := decB C0) hp
      split at hp
      · cases hp
        rw [step_some ha]
      · cases hp
  clear hK h5 h4
  generalize (stepR (B, rb)).1 = z at *
  have gs : ∀ q : Bool, stN 1 G1 qp (G1.get qp) 1 (.bool q) = some (.skip (G1.put qp (some (.cells 100 [.ptr (some (rp, 0)), .bool q])))) := fun q => by rw [g1, stN_snd _ _ _ _ _ rfl]
  cases qb with
  | true =>
    repeat (first | rw [outP_val] | rw [guardP_false] | rw [l1] | rw [gs] | rw [boolIs_bool] | rw [beq_ff] | rw [Bool.not_true] | rw [outP_skip] | rw [w_pick_b] | rw [if_pos rfl] | rw [w_fieldAddr_ptr] | rw [w_nil_ptr] | rw [Nat.zero_add] | rw [w_load_c] | rw [vO_some] | rw [w_store_c])
    exact fin _ (by rfl)
  | false =>
    by_cases c1 : z < 0
    · have d1 := decide_eq_true c1
      repeat (first | rw [outP_val] | rw [guardP_true] | rw [guardP_false] | rw [l1] | rw [d1] | rw [gs] | rw [boolIs_bool] | rw [beq_ff] | rw [Bool.not_true] | rw [Bool.not_false] | rw [outP_skip] | rw [w_pick_b] | rw [if_pos rfl] | rw [if_neg Bool.false_ne_true] | rw [w_fieldAddr_ptr] | rw [w_nil_ptr] | rw [Nat.zero_add] | rw [w_load_c] | rw [vO_some] | rw [w_store_c] | rw [w_lss])
      exact fin _ (by rw [d1]; rfl)
    · have d1 := decide_eq_false c1
      repeat (first | rw [outP_val] | rw [guardP_true] | rw [l1] | rw [d1] | rw [gs] | rw [boolIs_bool] | rw [beq_ff] | rw [Bool.not_false] | rw [outP_skip] | rw [w_pick_b] | rw [if_neg Bool.false_ne_true] | rw [w_fieldAddr_ptr] | rw [w_nil_ptr] | rw [Nat.zero_add] | rw [w_load_c] | rw [vO_some] | rw [w_store_c] | rw [w_lss] | rw [w_gtr])
      exact fin _ (by rw [d1]; rfl)
theorem qText_wp {H0 : AH} {rp qp : Nat} {st : Option (List Int)} (h : RQ H0 H rp qp st) (m : Int) (K : AV → AH → Prop) (hK : ∀ H' t, Ext [rp, qp] H H' → RQ H0 H' rp qp ((st.bind (pText m)).map (·.2)) → (∀ p, st.bind (pText m) = some p → t = p.1) → K (.str t) H') :
    CC.call 57 [.ptr (some (rp, 0)), .int .i64 m] H K := by
  obtain ⟨B, rb, qb, h1, h2, h3, h4, h5⟩ := h.ex
  have hl := h.lt
  have hl2 := h.lt2
  refine rText_wp h1 h2 m _ fun G1 e1 r1 => ?_
  have sl := textR_len m (B, rb)
  simp only at sl
  have n1 := e1.next
  refine hK _ _ (e1.mono (by simp)) ⟨⟨_, _, qb, r1, by omega, e1.get hl2 (by simp; omega) h3, fun C hC => ?_, fun hn => ?_⟩, hl, by omega⟩ fun p hp => ?_
  · obtain ⟨p, hp, rfl⟩ := Option.map_eq_some_iff.1 hC
    obtain ⟨C0, rfl, hp⟩ := bind_some' hp
    obtain ⟨rfl, rfl, rfl⟩ := h4 C0 rfl
    rw [textR_some hp]
    exact ⟨rfl, rfl, rfl⟩
  · rw [Option.map_eq_none_iff] at hn
    cases st with
    | none =>
      rcases h5 rfl with rfl | rfl
      · exact .inl (textR_bad m B)
      · exact .inr rfl
    | some C0 =>
      obtain ⟨rfl, rfl, rfl⟩ := h4 C0 rfl
      exact .inl (textR_none hn)
  · obtain ⟨C0, rfl, hp⟩ := bind_some' hp
    obtain ⟨rfl, rfl, rfl⟩ := h4 C0 rfl
    rw [textR_some hp]
def isNilA (v : AV) : Bool := match v with
  | .slice none _ _ _ => true
  | _ => false
theorem eq_nilV {v : AV} (h : SlK v) : w_eq PP .eql 23 false true H v (.slice none 0 0 true) = some (.val (.bool (isNilA v)) H) := by
  rcases h with rfl | ⟨_, _, rfl⟩ | ⟨_, _, _, _, _, rfl⟩ <;> kernel_rfl
theorem qVec_wp {H0 : AH} {rp qp : Nat} {st : Option (List Int)} (h : RQ H0 H rp qp st) (K : AV → AH → Prop) (hK : ∀ H' v, Ext [rp, qp] H H' → RQ H0 H' rp qp ((st.bind pVec).map (·.2)) → SlK v → (∀ p, st.bind pVec = some p → ∃ b, H.next ≤ b ∧ VecF H' b v p.1) → K v H') :
    CC.call 111 [.ptr (some (qp, 0))] H K := by
  refine m_req_reader_vec_ok _ _ _ ?_
  unfold m_req_reader_vec
  obtain ⟨B, rb, qb, h1, h2, h3, h4, h5⟩ := h.ex
  have hl := h.lt
  have hl2 := h.lt2
  have l0 := h.ldr
  rw [w_nil_ptr, outP_val, w_fieldAddr_ptr, outP_val, w_load_c, Nat.zero_add, l0, vO_some, outP_val, outP_enter]
  refine get_wp h1 h2 _ fun G1 v e1 r1 hv => ?_
  have g1 : G1.get qp = _ := e1.get hl2 (by simp; omega) h3
  have l1 : ldV (G1.get qp) 1 = some (.bool qb) := by rw [g1]; rfl
  have sl := getS_len (B, rb)
  simp only at sl
  have n1 := e1.next
  have hs : SlK v := by
    cases hg : (getS (B, rb)).1 with
    | none => rw [hg] at hv; exact .inl hv
    | some V =>
      rw [hg] at hv
      obtain ⟨Bv, n, c, hv, _⟩ := hv
      exact .inr (.inr ⟨_, _, _, _, _, hv⟩)
  have hnil : isNilA v = (getS (B, rb)).1.isNone := by
    cases hg : (getS (B, rb)).1 with
    | none =>
      rw [hg] at hv
      have hv : v = _ := hv
      rw [hv]; rfl
    | some V =>
      rw [hg] at hv
      obtain ⟨Bv, n, c, hv, _⟩ := hv
      rw [hv]; rfl
  have fin : ∀ q : Bool, q = (qb || (getS (B, rb)).1.isNone) → K v (G1.put qp (some (.cells 100 [.ptr (some (rp, 0)), .bool q]))) := by
    intro q hq
    have x2 : Ext [qp] G1 (G1.put qp (some (.cells 100 [.ptr (some (rp, 0)), .bool q]))) := (Ext.refl _ _).put (.inr (by simp)) _
    refine hK _ _ ((e1.mono (by simp)).trans (x2.mono (by simp))) ⟨⟨_, _, q, r1.hi x2 (by simp; omega), by omega, get_put_same _ _, fun C hC => ?_, fun hn => ?_⟩, hl, by rw [AH.next_put]; omega⟩ hs fun p hp => ?_
    · obtain ⟨p, hp, rfl⟩ := Option.map_eq_some_iff.1 hC
      obtain ⟨C0, rfl, hp⟩ := bind_some' hp
      obtain ⟨rfl, rfl, rfl⟩ := h4 C0 rfl
      rw [getS_some hp] at hq ⊢
      exact ⟨rfl, rfl, hq⟩
    · rw [Option.map_eq_none_iff] at hn
      cases st with
      | none =>
        rcases h5 rfl with rfl | rfl
        · exact .inl (getS_bad B)
        · right; rw [hq]; rfl
      | some C0 =>
        obtain ⟨rfl, rfl, rfl⟩ := h4 C0 rfl
        rcases getS_none hn with r | r
        · right; rw [hq, r]; rfl
        · exact .inl r
    · obtain ⟨C0, rfl, hp⟩ := bind_some' hp
      obtain ⟨rfl, rfl, rfl⟩ := h4 C0 rfl
      rw [getS_some hp] at hv
      obtain ⟨Bv, n, c, _, hB, is, hl8, _⟩ := hv
      exact ⟨Bv, hB, Sl.mono is x2 (by simp; omega), by omega⟩
  clear hK h5 h4 hv
  have gs : ∀ q : Bool, stN 1 G1 qp (G1.get qp) 1 (.bool q) = some (.skip (G1.put qp (some (.cells 100 [.ptr (some (rp, 0)), .bool q])))) := fun q => by rw [g1, stN_snd _ _ _ _ _ rfl]
  cases qb with
  | true =>
    repeat (first | rw [outP_val] | rw [guardP_false] | rw [l1] | rw [gs] | rw [boolIs_bool] | rw [beq_ff] | rw [Bool.not_true] | rw [outP_skip] | rw [w_pick_b] | rw [if_pos rfl] | rw [w_fieldAddr_ptr] | rw [w_nil_ptr] | rw [Nat.zero_add] | rw [w_load_c] | rw [vO_some] | rw [w_store_c])
    exact fin _ (by rfl)
  | false =>
    repeat (first | rw [outP_val] | rw [guardP_true] | rw [l1] | rw [eq_nilV hs] | rw [hnil] | rw [gs] | rw [boolIs_bool] | rw [beq_ff] | rw [Bool.not_false] | rw [outP_skip] | rw [w_pick_b] | rw [if_neg Bool.false_ne_true] | rw [w_fieldAddr_ptr] | rw [w_nil_ptr] | rw [Nat.zero_add] | rw [w_load_c] | rw [vO_some] | rw [w_store_c])
    exact fin _ (by rfl)
end
end Go.Ab
/- A request is read: what comes behind Col; all of it. -/
namespace Go.Ab
noncomputable section
open Go.Proofs
set_option maxRecDepth 10000
variable {H H' : AH}

theorem pf1 {st : Option (List Int)} {x : OpV} (c : x.kind = 1) : (st.bind (pFields x)).map (·.2) = ((((((st.bind pM).map (·.2)).bind pM).map (·.2)).bind pM).map (·.2)) ∧ ∀ p, st.bind (pFields x) = some p → ∃ a b d, st.bind pM = some a ∧ ((st.bind pM).map (·.2)).bind pM = some b ∧ ((((st.bind pM).map (·.2)).bind pM).map (·.2)).bind pM = some d ∧ p.1 = ((x.s4 a.1).s5 b.1).s6 d.1 := by
  rcases st with _ | B
  · exact ⟨rfl, fun p hp => (by cases hp)⟩
  simp only [Option.bind_some, pFields, if_pos c]
  rcases pM B with _ | a
  · exact ⟨rfl, fun p hp => (by cases hp)⟩
  simp only [Option.bind_some, Option.map_some]
  rcases pM a.2 with _ | b
  · exact ⟨rfl, fun p hp => (by cases hp)⟩
  simp only [Option.bind_some, Option.map_some]
  rcases pM b.2 with _ | d
  · exact ⟨rfl, fun p hp => (by cases hp)⟩
  simp only [Option.bind_some, Option.map_some]
  exact ⟨by first | rfl | trivial, fun p hp => by cases hp; exact ⟨a, b, d, rfl, rfl, rfl, rfl⟩⟩
theorem pf6 {st : Option (List Int)} {x : OpV} (c : x.kind = 6) : (st.bind (pFields x)).map (·.2) = ((st.bind pM).map (·.2)) ∧ ∀ p, st.bind (pFields x) = some p → ∃ a, st.bind pM = some a ∧ p.1 = x.s6 a.1 := by
  rcases st with _ | B
  · exact ⟨rfl, fun p hp => (by cases hp)⟩
  simp only [Option.bind_some, pFields, if_pos c, if_neg (show ¬ x.kind = 1 by omega)]
  rcases pM B with _ | a
  · exact ⟨rfl, fun p hp => (by cases hp)⟩
  simp only [Option.bind_some, Option.map_some]
  exact ⟨by first | rfl | trivial, fun p hp => by cases hp; exact ⟨a, rfl, rfl⟩⟩
theorem pf4 {st : Option (List Int)} {x : OpV} (c : x.kind = 4 ∨ x.kind = 12) : (st.bind (pFields x)).map (·.2) = ((st.bind pM).map (·.2)) ∧ ∀ p, st.bind (pFields x) = some p → ∃ a, st.bind pM = some a ∧ p.1 = x.s3 a.1 := by
  rcases st with _ | B
  · exact ⟨rfl, fun p hp => (by cases hp)⟩
  simp only [Option.bind_some, pFields, if_pos c, if_neg (show ¬ x.kind = 1 by omega), if_neg (show ¬ x.kind = 6 by omega)]
  rcases pM B with _ | a
  · exact ⟨rfl, fun p hp => (by cases hp)⟩
  simp only [Option.bind_some, Option.map_some]
  exact ⟨by first | rfl | trivial, fun p hp => by cases hp; exact ⟨a, rfl, rfl⟩⟩
theorem pf3 {st : Option (List Int)} {x : OpV} (c : x.kind = 3) : (st.bind (pFields x)).map (·.2) = ((((((((st.bind pM).map (·.2)).bind pVec).map (·.2)).bind (pText 40)).map (·.2)).bind pD).map (·.2)) ∧ ∀ p, st.bind (pFields x) = some p → ∃ a b d e, st.bind pM = some a ∧ ((st.bind pM).map (·.2)).bind pVec = some b ∧ ((((st.bind pM).map (·.2)).bind pVec).map (·.2)).bind (pText 40) = some d ∧ ((((((st.bind pM).map (·.2)).bind pVec).map (·.2)).bind (pText 40)).map (·.2)).bind pD = some e ∧ p.1 = (((x.s3 a.1).s7 b.1).s8 d.1).s10 e.1 := by
  rcases st with _ | B
  · exact ⟨rfl, fun p hp => (by cases hp)⟩
  simp only [Option.bind_some, pFields, if_pos c, if_neg (show ¬ x.kind = 1 by omega), if_neg (show ¬ x.kind = 6 by omega), if_neg (show ¬ (x.kind = 4 ∨ x.kind = 12) by omega)]
  rcases pM B with _ | a
  · exact ⟨rfl, fun p hp => (by cases hp)⟩
  simp only [Option.bind_some, Option.map_some]
  rcases pVec a.2 with _ | b
  · exact ⟨rfl, fun p hp => (by cases hp)⟩
  simp only [Option.bind_some, Option.map_some]
  rcases (pText 40) b.2 with _ | d
  · exact ⟨rfl, fun p hp => (by cases hp)⟩
  simp only [Option.bind_some, Option.map_some]
  rcases pD d.2 with _ | e
  · exact ⟨rfl, fun p hp => (by cases hp)⟩
  simp only [Option.bind_some, Option.map_some]
  exact ⟨by first | rfl | trivial, fun p hp => by cases hp; exact ⟨a, b, d, e, rfl, rfl, rfl, rfl, rfl⟩⟩
theorem pf13 {st : Option (List Int)} {x : OpV} (c : x.kind = 13) : (st.bind (pFields x)).map (·.2) = ((((st.bind pVec).map (·.2)).bind pM).map (·.2)) ∧ ∀ p, st.bind (pFields x) = some p → ∃ a b, st.bind pVec = some a ∧ ((st.bind pVec).map (·.2)).bind pM = some b ∧ p.1 = (x.s7 a.1).s9 b.1 := by
  rcases st with _ | B
  · exact ⟨rfl, fun p hp => (by cases hp)⟩
  simp only [Option.bind_some, pFields, if_pos c, if_neg (show ¬ x.kind = 1 by omega), if_neg (show ¬ x.kind = 6 by omega), if_neg (show ¬ (x.kind = 4 ∨ x.kind = 12) by omega), if_neg (show ¬ x.kind = 3 by omega)]
  rcases pVec B with _ | a
  · exact ⟨rfl, fun p hp => (by cases hp)⟩
  simp only [Option.bind_some, Option.map_some]
  rcases pM a.2 with _ | b
  · exact ⟨rfl, fun p hp => (by cases hp)⟩
  simp only [Option.bind_some, Option.map_some]
  exact ⟨by first | rfl | trivial, fun p hp => by cases hp; exact ⟨a, b, rfl, rfl, rfl⟩⟩
theorem wrapD {n : Int} (h : 0 ≤ n ∧ n ≤ 4294967295) : IntKind.u32.wrap n = n := by
  refine wrap_of_fits ?_
  cases n with
  | ofNat m => simp only [fits, fitsU, Nat.blt_eq]; have := h.2; simp only [Int.ofNat_eq_natCast] at this; omega
  | negSucc m => omega
theorem pNum_in {m : Int} {B : List Int} {p : Int × List Int} (h : pNum m B = some p) : 0 ≤ p.1 ∧ p.1 ≤ m := by
  obtain ⟨q, _, h⟩ := bind_some' (x := decB B) h
  split at h
  · cases h; assumption
  · cases h
theorem nil_slk : SlK (.slice none 0 0 true) := .inl rfl
theorem VecF.keep {b n : Nat} {v : AV} {V : List Int} (h : VecF H b v V) {m : List Nat} (e : Ext m H H') (hn : n ≤ b) (hm : ∀ c ∈ m, c < n) : VecF H' b v V := ⟨Sl.mono h.is e fun q => by have := hm _ q; omega, h.len⟩
set_option maxHeartbeats 2000000 in
theorem behind_wp {H0 : AH} {rp qp op : Nat} {st : Option (List Int)} (h : RQ H0 H rp qp st) (x : OpV) (hx : H.get op = some (.cells 26 (opC x (.slice none 0 0 true)))) (hxv : x.vec = []) (ho : qp < op) (ho2 : op < H.next) (K : AV → AH → Prop)
    (hK : ∀ H' x' v', Ext [rp, qp, op] H H' → RQ H0 H' rp qp ((st.bind (pFields x)).map (·.2)) → H'.get op = some (.cells 26 (opC x' v')) → SlK v' → (∀ p, st.bind (pFields x) = some p → x' = p.1 ∧ ∃ b, VecF H' b v' p.1.vec) → K (.tup []) H') :
    CC.call 59 [.ptr (some (qp, 0)), .ptr (some (op, 0))] H K := by
  refine m_req_reader_behind_ok _ _ _ _ ?_
  have hl := h.lt
  have hno : op ∉ [rp, qp] := by simp; omega
  have gk : ∀ {G G' : AH} {y : Option ABlk}, Ext [rp, qp] G G' → op < G.next → G.get op = y → G'.get op = y := fun e hn q => by rw [e.same _ hn hno, q]
  unfold m_req_reader_behind
  repeat (first | rw [outP_val] | rw [hx] | rw [op_f0] | rw [w_fieldAddr_ptr] | rw [w_nil_ptr] | rw [Nat.zero_add] | rw [w_load_c] | rw [vO_some])
  unfold m_req_reader_behindtbhbhbhbhbhbh
  rw [w_eql, outP_val]
  have leaf6 : ∀ (G : AH) (y : OpV) (st1 : Option (List Int)), RQ H0 G rp qp st1 → G.get op = some (.cells 26 (opC y (.slice none 0 0 true))) → op < G.next → (∀ G' n, Ext [rp, qp, op] G G' → RQ H0 G' rp qp ((st1.bind pM).map (·.2)) → G'.get op = some (.cells 26 (opC (y.s6 n) (.slice none 0 0 true))) → (∀ p, st1.bind pM = some p → n = p.1) → K (.tup []) G') → m_req_reader_behindtbhbhbhbt K (.ptr (some (qp, 0))) (.ptr (some (op, 0))) G := by
    intro G y st1 r g hn k
    unfold m_req_reader_behindtbhbhbhbt
    rw [outP_enter]
    refine qNum_wp r _ _ fun G1 n1 e1 i1 r1 k1 => ?_
    have g := gk e1 hn g
    have hn1 := e1.next
    repeat (first | rw [outP_val] | rw [g] | rw [op_s6] | rw [outP_skip] | rw [w_fieldAddr_ptr] | rw [w_nil_ptr] | rw [Nat.zero_add] | rw [w_store_c])
    have xp : Ext [op] G1 (G1.put op (some (.cells 26 (opC (y.s6 n1) (.slice none 0 0 true))))) := (Ext.refl _ _).put (.inr (by simp)) _
    exact k _ n1 ((e1.mono (by simp <;> omega)).trans (xp.mono (by simp))) (r1.hi xp (by simp <;> omega)) (get_put_same _ _) k1
  by_cases c1 : x.kind = 1
  case pos =>
    rw [decide_eq_true c1, condP_true, outP_enter]
    obtain ⟨p1, p2⟩ := pf1 (st := st) c1
    rw [p1] at hK
    refine qNum_wp h _ _ fun G1 n1 e1 i1 r1 k1 => ?_
    have g1 := gk e1 ho2 hx
    have l1 := e1.next
    rw [outP_enter]
    refine qNum_wp r1 _ _ fun G2 n2 e2 i2 r2 k2 => ?_
    have g := gk e2 (by omega) g1
    have l2 := e2.next
    repeat (first | rw [outP_val] | rw [g] | rw [get_put_same] | rw [op_s4] | rw [op_s5] | rw [outP_skip] | rw [w_fieldAddr_ptr] | rw [w_nil_ptr] | rw [Nat.zero_add] | rw [w_store_c])
    have xp : Ext [op] G2 ((G2.put op (some (.cells 26 (opC (x.s4 n1) (.slice none 0 0 true))))).put op (some (.cells 26 (opC ((x.s4 n1).s5 n2) (.slice none 0 0 true))))) := ((Ext.refl _ _).put (.inr (by simp)) _).put (.inr (by simp)) _
    refine leaf6 _ _ _ (r2.hi xp (by simp <;> omega)) (get_put_same _ _) (by rw [AH.next_put, AH.next_put]; omega) fun G3 n3 e3 r3 g3 k3 => ?_
    refine hK G3 _ _ (((e1.mono (by simp <;> omega)).trans (e2.mono (by simp <;> omega))).trans ((xp.mono (by simp)).trans e3)) r3 g3 nil_slk fun p hp => ?_
    obtain ⟨a, b, d, q1, q2, q3, q4⟩ := p2 p hp
    rw [k1 a q1, k2 b q2, k3 d q3, q4]
    refine ⟨rfl, 0, ?_⟩
    rw [show (((x.s4 a.1).s5 b.1).s6 d.1).vec = x.vec from rfl, hxv]
    exact vecF_nil _ _
  rw [decide_eq_false c1, condP_false]
  unfold m_req_reader_behindtbhbhbhbhbhbht
  rw [w_eql, outP_val]
  by_cases c2 : x.kind = 6
  case pos =>
    rw [decide_eq_true c2, condP_true]
    obtain ⟨p1, p2⟩ := pf6 (st := st) c2
    rw [p1] at hK
    refine leaf6 _ _ _ h hx ho2 fun G3 n3 e3 r3 g3 k3 => ?_
    refine hK G3 _ _ e3 r3 g3 nil_slk fun p hp => ?_
    obtain ⟨a, q1, q4⟩ := p2 p hp
    rw [k3 a q1, q4]
    refine ⟨rfl, 0, ?_⟩
    rw [show (x.s6 a.1).vec = x.vec from rfl, hxv]
    exact vecF_nil _ _
  rw [decide_eq_false c2, condP_false]
  clear leaf6
  unfold m_req_reader_behindtbhbhbhbhbhbhtth
  rw [w_eql, outP_val]
  by_cases c3 : x.kind = 4 ∨ x.kind = 12
  case pos =>
    obtain ⟨p1, p2⟩ := pf4 (st := st) c3
    rw [p1] at hK
    have go : m_req_reader_behindtbhbhbhbhbhbhttht K (.ptr (some (qp, 0))) (.ptr (some (op, 0))) (.int .i64 x.kind) (.bool true) H := by
      unfold m_req_reader_behindtbhbhbhbhbhbhttht
      rw [condP_true]
      unfold m_req_reader_behindtbhbhbt
      rw [outP_enter]
      refine qNum_wp h _ _ fun G1 n1 e1 i1 r1 k1 => ?_
      have g := gk e1 ho2 hx
      have hn1 := e1.next
      repeat (first | rw [outP_val] | rw [g] | rw [op_s3] | rw [outP_skip] | rw [w_fieldAddr_ptr] | rw [w_nil_ptr] | rw [Nat.zero_add] | rw [w_store_c])
      have xp : Ext [op] G1 (G1.put op (some (.cells 26 (opC (x.s3 n1) (.slice none 0 0 true))))) := (Ext.refl _ _).put (.inr (by simp)) _
      refine hK _ _ _ ((e1.mono (by simp <;> omega)).trans (xp.mono (by simp))) (r1.hi xp (by simp <;> omega)) (get_put_same _ _) nil_slk fun p hp => ?_
      obtain ⟨a, q1, q4⟩ := p2 p hp
      rw [k1 a q1, q4]
      refine ⟨rfl, 0, ?_⟩
      rw [show (x.s3 a.1).vec = x.vec from rfl, hxv]
      exact vecF_nil _ _
    by_cases c4 : x.kind = 4
    · rw [decide_eq_true c4, condP_true]; exact go
    · rw [decide_eq_false c4, condP_false, w_eql, outP_val, decide_eq_true (by omega)]; exact go
  rw [decide_eq_false (by omega), condP_false, w_eql, outP_val, decide_eq_false (by omega)]
  unfold m_req_reader_behindtbhbhbhbhbhbhttht
  rw [condP_false]
  unfold m_req_reader_behindtbhbhbhbhbhbhttt
  rw [w_eql, outP_val]
  by_cases c5 : x.kind = 3
  case pos =>
    rw [decide_eq_true c5, condP_true]
    obtain ⟨p1, p2⟩ := pf3 (st := st) c5
    rw [p1] at hK
    unfold m_req_reader_behindtbhbt
    have l0 := h.ldr
    rw [w_nil_ptr, outP_val, w_fieldAddr_ptr, outP_val, w_load_c, Nat.zero_add, l0, vO_some, outP_val, outP_enter]
    refine qNum_wp h _ _ fun G1 n1 e1 i1 r1 k1 => ?_
    have g1 := gk e1 ho2 hx
    have n1' := e1.next
    rw [w_load_c, r1.ldr, vO_some, reC_val, beq_ptr, ckP_true, outP_enter]
    refine qVec_wp r1 _ fun G2 v e2 r2 hv k2 => ?_
    have g2 := gk e2 (by omega) g1
    have n2' := e2.next
    rw [w_load_c, r2.ldr, vO_some, reC_val, beq_ptr, ckP_true, outP_enter]
    refine qText_wp r2 _ _ fun G3 t e3 r3 k3 => ?_
    have g := gk e3 (by omega) g2
    have n3' := e3.next
    obtain ⟨f1, f2, f3⟩ := slk_facts hv
    obtain ⟨V, hV⟩ : ∃ V : List Int, ∀ q, ((st.bind (pNum 1000000)).map (·.2)).bind pVec = some q → V = q.1 := by
      cases hq : ((st.bind (pNum 1000000)).map (·.2)).bind pVec with
      | none => exact ⟨[], fun q hq => by cases hq⟩
      | some q => exact ⟨q.1, fun q' hq' => by cases hq'; rfl⟩
    repeat (first | rw [outP_val] | rw [g] | rw [get_put_same] | rw [op_s3] | rw [op_s7 _ _ _ _ _ V f1] | rw [op_s8] | rw [outP_skip] | rw [w_fieldAddr_ptr] | rw [w_nil_ptr] | rw [Nat.zero_add] | rw [w_store_c])
    have xp : Ext [op] G3 (((G3.put op (some (.cells 26 (opC (x.s3 n1) (.slice none 0 0 true))))).put op (some (.cells 26 (opC ((x.s3 n1).s7 V) v)))).put op (some (.cells 26 (opC (((x.s3 n1).s7 V).s8 t) v)))) := (((Ext.refl _ _).put (.inr (by simp)) _).put (.inr (by simp)) _).put (.inr (by simp)) _
    have g4 := get_put_same (H := (G3.put op (some (.cells 26 (opC (x.s3 n1) (.slice none 0 0 true))))).put op (some (.cells 26 (opC ((x.s3 n1).s7 V) v)))) op (some (.cells 26 (opC (((x.s3 n1).s7 V).s8 t) v)))
    have n4' : (((G3.put op (some (.cells 26 (opC (x.s3 n1) (.slice none 0 0 true))))).put op (some (.cells 26 (opC ((x.s3 n1).s7 V) v)))).put op (some (.cells 26 (opC (((x.s3 n1).s7 V).s8 t) v)))).next = G3.next := rfl
    generalize ((G3.put op (some (.cells 26 (opC (x.s3 n1) (.slice none 0 0 true))))).put op (some (.cells 26 (opC ((x.s3 n1).s7 V) v)))).put op (some (.cells 26 (opC (((x.s3 n1).s7 V).s8 t) v))) = G4 at *
    rw [outP_enter]
    refine qNum_wp (r3.hi xp (by simp <;> omega)) _ _ fun G5 n5 e5 i5 r5 k5 => ?_
    have n5' := e5.next
    have g := gk e5 (by omega) g4
    repeat (first | rw [outP_val] | rw [g] | rw [op_s10] | rw [outP_skip] | rw [w_fieldAddr_ptr] | rw [w_nil_ptr] | rw [Nat.zero_add] | rw [w_store_c] | rw [w_cint])
    have xp2 : Ext [op] G5 (G5.put op (some (.cells 26 (opC ((((x.s3 n1).s7 V).s8 t).s10 (IntKind.u32.wrap n5)) v)))) := (Ext.refl _ _).put (.inr (by simp)) _
    have w : ∀ {A B : AH}, Ext [rp, qp] A B → Ext [rp, qp, op] A B := fun e => e.mono fun b hb _ => by simp at hb ⊢; omega
    have w' : ∀ {A B : AH}, Ext [op] A B → Ext [rp, qp, op] A B := fun e => e.mono fun b hb _ => by simp at hb ⊢; omega
    refine hK _ _ _ (((w e1).trans (w e2)).trans ((w e3).trans ((w' xp).trans ((w e5).trans (w' xp2))))) (r5.hi xp2 (by simp <;> omega)) (get_put_same _ _) hv fun p hp => ?_
    obtain ⟨a, b, d, e, q1, q2, q3, q4, q5⟩ := p2 p hp
    obtain ⟨bv, hb1, hb2⟩ := k2 b q2
    obtain ⟨q4', q4''⟩ : True ∧ 0 ≤ e.1 ∧ e.1 ≤ 4294967295 := ⟨trivial, by
      obtain ⟨C, _, q⟩ := bind_some' q4
      exact pNum_in q⟩
    refine ⟨by rw [k1 a q1, hV b q2, k3 d q3, k5 e q4, wrapD q4'', q5], bv, ?_⟩
    rw [q5, show ((((x.s3 a.1).s7 b.1).s8 d.1).s10 e.1).vec = b.1 from rfl]
    exact hb2.keep (w e3 |>.trans ((w' xp).trans ((w e5).trans (w' xp2)))) hb1 (by simp <;> omega)
  rw [decide_eq_false c5, condP_false, w_eql, outP_val]
  by_cases c6 : x.kind = 13
  case pos =>
    rw [decide_eq_true c6, condP_true]
    obtain ⟨p1, p2⟩ := pf13 (st := st) c6
    rw [p1] at hK
    unfold m_req_reader_behindtbt
    rw [outP_enter]
    refine qVec_wp h _ fun G2 v e2 r2 hv k2 => ?_
    have g2 := gk e2 ho2 hx
    have n2' := e2.next
    rw [outP_enter]
    refine qNum_wp r2 _ _ fun G3 n3 e3 i3 r3 k3 => ?_
    have g := gk e3 (by omega) g2
    have n3' := e3.next
    obtain ⟨f1, f2, f3⟩ := slk_facts hv
    obtain ⟨V, hV⟩ : ∃ V : List Int, ∀ q, st.bind pVec = some q → V = q.1 := by
      cases hq : st.bind pVec with
      | none => exact ⟨[], fun q hq => by cases hq⟩
      | some q => exact ⟨q.1, fun q' hq' => by cases hq'; rfl⟩
    repeat (first | rw [outP_val] | rw [g] | rw [get_put_same] | rw [op_s7 _ _ _ _ _ V f1] | rw [op_s9] | rw [outP_skip] | rw [w_fieldAddr_ptr] | rw [w_nil_ptr] | rw [Nat.zero_add] | rw [w_store_c])
    have xp : Ext [op] G3 ((G3.put op (some (.cells 26 (opC (x.s7 V) v)))).put op (some (.cells 26 (opC ((x.s7 V).s9 n3) v)))) := ((Ext.refl _ _).put (.inr (by simp)) _).put (.inr (by simp)) _
    have w : ∀ {A B : AH}, Ext [rp, qp] A B → Ext [rp, qp, op] A B := fun e => e.mono fun b hb _ => by simp at hb ⊢; omega
    have w' : ∀ {A B : AH}, Ext [op] A B → Ext [rp, qp, op] A B := fun e => e.mono fun b hb _ => by simp at hb ⊢; omega
    refine hK _ _ _ ((w e2).trans ((w e3).trans (w' xp))) (r3.hi xp (by simp <;> omega)) (get_put_same _ _) hv fun p hp => ?_
    obtain ⟨a, b, q1, q2, q5⟩ := p2 p hp
    obtain ⟨bv, hb1, hb2⟩ := k2 a q1
    refine ⟨by rw [hV a q1, k3 b q2, q5], bv, ?_⟩
    rw [q5, show ((x.s7 a.1).s9 b.1).vec = a.1 from rfl]
    exact hb2.keep ((w e3).trans (w' xp)) hb1 (by simp <;> omega)
  rw [decide_eq_false c6, condP_false]
  have ps : st.bind (pFields x) = st.map fun B => (x, B) := by
    rcases st with _ | B
    · rfl
    · simp only [Option.bind_some, pFields, if_neg c1, if_neg c2, if_neg c3, if_neg c5, if_neg c6, Option.map_some]
  rw [ps] at hK
  refine hK _ x _ (Ext.refl _ _) ?_ hx nil_slk fun p hp => ?_
  · rw [Option.map_map]
    rw [show ((fun x => x.2) ∘ fun B => (x, B) : List Int → List Int) = id from rfl, Option.map_id]
    exact h
  · obtain ⟨B, _, rfl⟩ := Option.map_eq_some_iff.1 hp
    refine ⟨rfl, 0, ?_⟩
    rw [hxv]; exact vecF_nil _ _
end
end Go.Ab
/- A request is read. -/
namespace Go.Ab
noncomputable section
open Go.Proofs
set_option maxRecDepth 10000
variable {H H' : AH}

def getErr (B : List Int) : Int := if 400 < B.length then 11 else match decB B with
  | none => 1
  | some (n, _) => if n < 1 ∨ 15 < n then 12 else 1
theorem rq_build (rp : Nat) : w_build PP 100 H [(0, .ptr (some (rp, 0)))] = some (.val (.agg [.ptr (some (rp, 0)), .bool false]) H) := by kernel_rfl
theorem pr5 {x : OpV} {B : List Int} (c : x.kind = 5) : (pRest x B).map (·.2) = (((some B).bind (pText 12)).map (·.2) |>.bind (pText 12)).map (·.2) ∧ ∀ p, pRest x B = some p → ∃ a b, (some B).bind (pText 12) = some a ∧ (((some B).bind (pText 12)).map (·.2)).bind (pText 12) = some b ∧ p.1 = (x.s2 a.1).s1 b.1 := by
  simp only [Option.bind_some, pRest, if_pos c]
  rcases pText 12 B with _ | a
  · exact ⟨rfl, fun p hp => (by cases hp)⟩
  simp only [Option.bind_some, Option.map_some]
  rcases pText 12 a.2 with _ | b
  · exact ⟨rfl, fun p hp => (by cases hp)⟩
  simp only [Option.bind_some, Option.map_some]
  exact ⟨by first | rfl | trivial, fun p hp => by cases hp; exact ⟨a, b, rfl, rfl, rfl⟩⟩
theorem pr10 {x : OpV} {B : List Int} (c : x.kind = 10) : (pRest x B).map (·.2) = ((some B).bind pD).map (·.2) ∧ ∀ p, pRest x B = some p → ∃ a, (some B).bind pD = some a ∧ p.1 = x.s10 a.1 := by
  simp only [Option.bind_some, pRest, if_pos c, if_neg (show ¬ x.kind = 5 by omega)]
  rcases pD B with _ | a
  · exact ⟨rfl, fun p hp => (by cases hp)⟩
  simp only [Option.bind_some, Option.map_some]
  exact ⟨by first | rfl | trivial, fun p hp => by cases hp; exact ⟨a, rfl, rfl⟩⟩
theorem prD {x : OpV} {B : List Int} (c : ¬ (x.kind = 5 ∨ x.kind = 10 ∨ x.kind = 7 ∨ x.kind = 8 ∨ x.kind = 9 ∨ x.kind = 11 ∨ x.kind = 14)) : ∀ t, (∀ p, (some B).bind (pText 12) = some p → t = p.1) → pRest x B = (((some B).bind (pText 12)).map (·.2)).bind (pFields (x.s1 t)) := by
  intro t ht
  simp only [Option.bind_some, pRest, if_neg (show ¬ x.kind = 5 by omega), if_neg (show ¬ x.kind = 10 by omega), if_neg (show ¬ (x.kind = 7 ∨ x.kind = 8 ∨ x.kind = 9 ∨ x.kind = 11 ∨ x.kind = 14) by omega)] at ht ⊢
  cases hq : pText 12 B with
  | none => rfl
  | some a =>
    rw [ht a hq]; rfl
set_option maxHeartbeats 2000000 in
theorem reqGet_wp {b : Nat} {s : AV} {B : List Int} (h : Is .u8 H b s B) (hby : By B) (hB : B.length ≤ 10000) (K : AV → AH → Prop)
    (h1 : ¬ (B.length ≤ 400 ∧ ∃ o, pOp B = some (o, [])) → ∀ H' e, Ext [] H H' → ErrX H' e (getErr B) → K (.tup [opA OpV.zero (.slice none 0 0 true), e]) H')
    (h2 : ∀ o, B.length ≤ 400 → pOp B = some (o, []) → ∀ H' v b', Ext [] H H' → VecF H' b' v o.vec → K (.tup [opA o v, .nilIface]) H') : CC.call 13 [s] H K := by
  refine m_req_Get_ok _ _ _ ?_
  unfold m_req_Get
  rw [op_alloc, outP_val]
  have x1 : Ext [] H (H.new (.cells 26 (opC OpV.zero (.slice none 0 0 true)))) := (Ext.refl _ _).new _
  have gR := get_new_same H (.cells 26 (opC OpV.zero (.slice none 0 0 true)))
  have nx : (H.new (.cells 26 (opC OpV.zero (.slice none 0 0 true)))).next = H.next + 1 := rfl
  generalize H.new (.cells 26 (opC OpV.zero (.slice none 0 0 true))) = G0 at *
  have hs0 : Is .u8 G0 b s B := Sl.mono h x1 (by simp)
  unfold m_req_Gett
  rw [hs0.len u8_sl, outP_val, w_gtr, outP_val]
  -- an error is told
  have bad : ∀ (G : AH) (n : Int), Ext [] G0 G → n ≠ 0 → n = getErr B → ¬ (B.length ≤ 400 ∧ ∃ o, pOp B = some (o, [])) →
      outP CC G (w_build PP 26 G []) (fun v3 H3 => outP CC H3 (some (.enter 41 [(.int .i64 n)])) fun v4 H4 => outP CC H4 (w_store 11 H4 (.ptr (some (H.next, 0))) v3) fun _ H5 => endP (resR (partF (some (some 11))) H5 (.ptr (some (H.next, 0))) (resT v4 (some []))) K H5) := by
    intro G n x hn0 hn hno
    rw [op_build0, outP_val, outP_enter]
    refine at_wp n hn0 _ fun G2 e x2 he => ?_
    have g2 : G2.get H.next = _ := x2.get (by have := x.next; omega) (by simp) (x.get (by omega) (by simp) gR)
    rw [w_store_c, g2, st11 _ _ (op_len _ _) (op_len _ _) (op_one _ rfl), outP_skip, end11' (get_put_same _ _) (op_len _ _) (op_known _ rfl)]
    have x3 : Ext [H.next] G2 (G2.put H.next (some (.cells 26 (opC OpV.zero (.slice none 0 0 true))))) := (Ext.refl _ _).put (.inr (by simp)) _
    have xx := (((x1.trans (x.trans x2)).mono (m' := [H.next]) (by simp)).trans x3).mono (m' := []) fun b hb hlt => by simp at hb; omega
    refine h1 hno _ e xx ?_
    rw [← hn]
    obtain ⟨be, w, e1, e2, e3⟩ := he
    have hne : be ≠ H.next := fun q => by
      rw [q, g2] at e2
      have e2 := ABlk.cells.inj (Option.some.inj e2)
      exact absurd (show (11 : Nat) = 2 from congrArg List.length e2.2) (by decide)
    exact ⟨be, w, e1, by rw [get_put_ne _ hne]; exact e2, e3⟩
  by_cases c0 : (400 : Int) < (B.length : Int)
  case pos =>
    rw [decide_eq_true c0, condP_true]
    exact bad G0 11 (Ext.refl _ _) (by decide) (by unfold getErr; rw [if_pos (by omega)]) fun q => by have := q.1; omega
  rw [decide_eq_false c0, condP_false]
  have hB4 : B.length ≤ 400 := by omega
  have ge : getErr B = match decB B with
    | none => 1
    | some (n, _) => if n < 1 ∨ 15 < n then 12 else 1 := by unfold getErr; rw [if_neg (by omega)]
  unfold m_req_Gettt
  rw [outP_enter]
  refine newReader_wp hs0 hby hB _ fun G1 rp r1 => ?_
  rw [rq_build, outP_val, w_box_one (by rfl), outP_val]
  have x2 : Ext [] G1 (G1.new (.cells 100 [.ptr (some (rp, 0)), .bool false])) := (Ext.refl _ _).new _
  have gq := get_new_same G1 (.cells 100 [.ptr (some (rp, 0)), .bool false])
  have nq : (G1.new (.cells 100 [.ptr (some (rp, 0)), .bool false])).next = G1.next + 1 := rfl
  have r2 := r1.mono0 x2
  have lr := r1.lt
  show m_req_Getttt K (.ptr (some (H.next, 0))) (.ptr (some (G1.next, 0))) (G1.new (.cells 100 [.ptr (some (rp, 0)), .bool false]))
  generalize G1.new (.cells 100 [.ptr (some (rp, 0)), .bool false]) = G2 at *
  obtain ⟨qp, hqp⟩ : ∃ qp, qp = G1.next := ⟨_, rfl⟩
  rw [← hqp] at gq nq lr ⊢
  clear hqp r1 x2 G1
  unfold m_req_Getttt
  have l0 : ldV (G2.get qp) 0 = some (.ptr (some (rp, 0))) := by rw [gq]; rfl
  rw [w_nil_ptr, outP_val, w_fieldAddr_ptr, outP_val, w_load_c, Nat.zero_add, l0, vO_some, outP_val, outP_enter]
  refine rInt_wp r2 (by omega) _ fun G3 e3 r3 i3 => ?_
  have n3 := e3.next
  have gq3 : G3.get qp = _ := e3.get (by omega) (by simp; omega) gq
  have l3 : ldV (G3.get qp) 0 = some (.ptr (some (rp, 0))) := by rw [gq3]; rfl
  have sl3 := step_len (B, false)
  unfold m_req_Gettttt
  rw [w_nil_ptr, outP_val, w_fieldAddr_ptr, outP_val, w_load_c, Nat.zero_add, l3, vO_some, outP_val, outP_enter]
  refine err_wp r3 _ ?_
  cases hd : decB B with
  | none =>
    rw [step_none hd] at r3 ⊢
    simp only at r3 ⊢
    rw [if_pos (by simp), w_neq, outP_val, show (!decide ((1 : Int) = 0)) = true from rfl, condP_true]
    refine bad G3 1 r3.ext (by decide) (by rw [ge, hd]) fun q => ?_
    obtain ⟨o, ho⟩ := q.2
    have ho : (decB B).bind _ = some (o, []) := ho
    rw [hd] at ho; cases ho
  | some p =>
    obtain ⟨n, R⟩ := p
    rw [step_some hd] at r3 sl3 i3 ⊢
    simp only at r3 sl3 i3 ⊢
    rw [hd] at ge
    simp only at ge
    have po : pOp B = if 1 ≤ n ∧ n ≤ 15 then pRest (OpV.zero.s0 n) R else none := by
      show (decB B).bind _ = _
      rw [hd, Option.bind_some]; rfl
    rw [if_neg (by simp), w_neq, outP_val, show (!decide ((0 : Int) = 0)) = false from rfl, condP_false]
    by_cases c1 : n < 1
    · have d1 := decide_eq_true c1
      repeat (first | rw [outP_val] | rw [guardP_false] | rw [condP_true] | rw [d1] | rw [boolIs_bool] | rw [beq_ff] | rw [Bool.not_true] | rw [w_pick_b] | rw [if_pos rfl] | rw [w_lss])
      refine bad G3 12 r3.ext (by decide) (by rw [ge, if_pos (.inl c1)]) fun q => ?_
      obtain ⟨o, ho⟩ := q.2
      rw [po, if_neg (by omega)] at ho; cases ho
    by_cases c2 : 15 < n
    · have d1 := decide_eq_false c1
      have d2 := decide_eq_true c2
      repeat (first | rw [outP_val] | rw [guardP_true] | rw [condP_true] | rw [d1] | rw [d2] | rw [boolIs_bool] | rw [beq_ff] | rw [Bool.not_false] | rw [w_pick_b] | rw [if_neg Bool.false_ne_true] | rw [w_lss] | rw [w_gtr])
      refine bad G3 12 r3.ext (by decide) (by rw [ge, if_pos (.inr c2)]) fun q => ?_
      obtain ⟨o, ho⟩ := q.2
      rw [po, if_neg (by omega)] at ho; cases ho
    have d1 := decide_eq_false c1
    have d2 := decide_eq_false c2
    repeat (first | rw [outP_val] | rw [guardP_true] | rw [d1] | rw [d2] | rw [condP_false] | rw [boolIs_bool] | rw [beq_ff] | rw [Bool.not_false] | rw [w_pick_b] | rw [if_neg Bool.false_ne_true] | rw [w_lss] | rw [w_gtr])
    rw [if_neg (by omega)] at ge
    rw [if_pos ⟨by omega, by omega⟩] at po
    unfold m_req_Getttttt
    rw [op_build, outP_val, op_alloc, outP_val]
    have q3 : RQ G0 G3 rp qp (some R) := ⟨⟨R, false, false, r3, by omega, gq3, fun C hC => (by cases hC; exact ⟨rfl, rfl, rfl⟩), fun q => (by cases q)⟩, lr, by omega⟩
    have x4 : Ext [] G3 (G3.new (.cells 26 (opC OpV.zero (.slice none 0 0 true)))) := (Ext.refl _ _).new _
    have go := get_new_same G3 (.cells 26 (opC OpV.zero (.slice none 0 0 true)))
    have nn : (G3.new (.cells 26 (opC OpV.zero (.slice none 0 0 true)))).next = G3.next + 1 := rfl
    have q4 := q3.hi x4 (by simp)
    have xa : Ext [] G0 (G3.new (.cells 26 (opC OpV.zero (.slice none 0 0 true)))) := r3.ext.trans x4
    have hq3 := q3.lt2
    generalize G3.new (.cells 26 (opC OpV.zero (.slice none 0 0 true))) = G4 at *
    obtain ⟨op, hop⟩ : ∃ op, op = G3.next := ⟨_, rfl⟩
    rw [← hop] at go nn hq3 ⊢
    rw [w_store_c, go, st11 _ _ (op_len _ _) (op_len _ _) (op_one _ rfl), outP_skip]
    have x5 : Ext [op] G4 (G4.put op (some (.cells 26 (opC (OpV.zero.s0 n) (.slice none 0 0 true))))) := (Ext.refl _ _).put (.inr (by simp)) _
    have g5 := get_put_same (H := G4) op (some (.cells 26 (opC (OpV.zero.s0 n) (.slice none 0 0 true))))
    have n5 : (G4.put op (some (.cells 26 (opC (OpV.zero.s0 n) (.slice none 0 0 true))))).next = op + 1 := nn
    have q5 := q4.hi x5 (by simp; omega)
    have h0p : G0.next ≤ op := by rw [hop]; exact r3.ext.next
    have h0r := r3.lo
    have xb : Ext [] G0 (G4.put op (some (.cells 26 (opC (OpV.zero.s0 n) (.slice none 0 0 true))))) := ((xa.mono (m' := [op]) (by simp)).trans x5).mono fun b hb hlt => by simp at hb; omega
    generalize G4.put op (some (.cells 26 (opC (OpV.zero.s0 n) (.slice none 0 0 true)))) = G5 at *
    clear q4 x4 x5 xa go nn q3 hop r3 e3 gq3 l3 n3 r2 l0 gq nq i3 sl3
    have hk0 : (OpV.zero.s0 n).kind = n := rfl
    have hv0 : (OpV.zero.s0 n).vec = [] := rfl
    generalize OpV.zero.s0 n = z at *
    have fin : ∀ G' x' v', Ext [rp, qp, op] G5 G' → RQ G0 G' rp qp ((pRest z R).map (·.2)) → G'.get op = some (.cells 26 (opC x' v')) → SlK v' → (∀ p, pRest z R = some p → x' = p.1 ∧ ∃ b, VecF G' b v' p.1.vec) → m_req_Getttttttt K (.ptr (some (H.next, 0))) (.ptr (some (qp, 0))) (.ptr (some (op, 0))) G' := by
      intro G' x' v' xg rq g hv' hp
      have xc : Ext [] G0 G' := ((xb.mono (m' := [rp, qp, op]) (by simp)).trans xg).mono fun b hb hlt => by simp at hb; omega
      obtain ⟨C, rb, qb, t1, t2, t3, t4, t5⟩ := rq.ex
      have l0 := rq.ldr
      have l1 : ldV (G'.get qp) 1 = some (.bool qb) := by rw [t3]; rfl
      unfold m_req_Getttttttt
      have no : (rb = true ∨ qb = true ∨ C ≠ []) → ¬ (B.length ≤ 400 ∧ ∃ o, pOp B = some (o, [])) := by
        rintro q ⟨_, o, ho⟩
        rw [po] at ho
        obtain ⟨e1, e2, e3⟩ := t4 [] (by rw [ho]; rfl)
        rcases q with q | q | q
        · rw [e2] at q; cases q
        · rw [e3] at q; cases q
        · exact q e1.symm
      cases qb with
      | true =>
        repeat (first | rw [outP_val] | rw [guardP_false] | rw [condP_true] | rw [l1] | rw [boolIs_bool] | rw [beq_ff] | rw [Bool.not_true] | rw [w_pick_b] | rw [if_pos rfl] | rw [w_fieldAddr_ptr] | rw [w_nil_ptr] | rw [Nat.zero_add] | rw [w_load_c] | rw [vO_some])
        exact bad G' 1 xc (by decide) ge.symm (no (.inr (.inl rfl)))
      | false =>
        repeat (first | rw [outP_val] | rw [guardP_true] | rw [l1] | rw [l0] | rw [boolIs_bool] | rw [beq_ff] | rw [Bool.not_false] | rw [w_fieldAddr_ptr] | rw [w_nil_ptr] | rw [Nat.zero_add] | rw [w_load_c] | rw [vO_some])
        rw [outP_enter]
        refine end_wp t1 _ ?_
        by_cases ce : rb = false ∧ C = []
        case neg =>
          rw [if_neg ce]
          repeat (first | rw [outP_val] | rw [guardP_true] | rw [w_pick_b] | rw [if_neg Bool.false_ne_true] | rw [w_load_n] | rw [w_neq])
          rw [show (!decide ((1 : Int) = 0)) = true from rfl]
          repeat rw [condP_true]
          refine bad G' 1 xc (by decide) ge.symm (no ?_)
          cases rb with
          | true => exact .inl rfl
          | false => exact .inr (.inr fun q => ce ⟨rfl, q⟩)
        obtain ⟨rfl, rfl⟩ := ce
        rw [if_pos ⟨rfl, rfl⟩]
        repeat (first | rw [outP_val] | rw [guardP_true] | rw [w_pick_b] | rw [if_neg Bool.false_ne_true] | rw [w_load_n] | rw [w_neq])
        rw [show (!decide ((0 : Int) = 0)) = false from rfl]
        obtain ⟨f1, f2, f3⟩ := slk_facts hv'
        repeat (first | rw [outP_val] | rw [g] | rw [ld11 _ (op_len x' v') (op_known _ f3)] | rw [condP_false] | rw [vO_some] | rw [w_store_c])
        have gr : G'.get H.next = _ := xc.get (by omega) (by simp) gR
        rw [gr, st11 _ _ (op_len _ _) (op_len _ _) (op_one _ f1), outP_skip, end11' (get_put_same _ _) (op_len _ _) (op_known _ f3)]
        cases hr : pRest z R with
        | none =>
          rw [hr] at t5
          rcases t5 rfl with q | q <;> cases q
        | some p =>
          obtain ⟨rfl, bv, hvf⟩ := hp p hr
          obtain ⟨e1, _, _⟩ := t4 p.2 (by rw [hr]; rfl)
          have x3 : Ext [H.next] G' (G'.put H.next (some (.cells 26 (opC p.1 v')))) := (Ext.refl _ _).put (.inr (by simp)) _
          have xx := (((x1.trans xc).mono (m' := [H.next]) (by simp)).trans x3).mono (m' := []) fun b hb hlt => by simp at hb; omega
          refine h2 p.1 hB4 (by rw [po, hr, ← e1]) _ v' bv xx ⟨Sl.mono' hvf.is x3 fun q => ?_, hvf.len⟩
          obtain rfl := List.mem_singleton.1 q
          obtain ⟨_, q⟩ | ⟨o, c, ex, _, q, _⟩ := hvf.is.ex
          · exact q
          · cases hX : p.1.vec with
            | nil => rfl
            | cons x X =>
              exfalso
              have hc := q.cell 0 [.int .i32 x] (by rw [hX]; rfl) 0 _ rfl
              rw [gr] at hc
              have hc : (opC OpV.zero (.slice none 0 0 true))[o + 0 * 1 + 0]? = some (.int .i32 x) := hc
              have hc := List.mem_of_getElem? hc
              simp [opC] at hc
    have hno : op ∉ [rp, qp] := by simp; omega
    have w : ∀ {A B : AH}, Ext [rp, qp] A B → Ext [rp, qp, op] A B := fun e => e.mono fun b hb _ => by simp at hb ⊢; omega
    have w' : ∀ {A B : AH}, Ext [op] A B → Ext [rp, qp, op] A B := fun e => e.mono fun b hb _ => by simp at hb ⊢; omega
    clear bad po ge h1 h2
    unfold m_req_Gettttttth
    repeat (first | rw [outP_val] | rw [g5] | rw [op_f0] | rw [w_fieldAddr_ptr] | rw [Nat.zero_add] | rw [w_load_c] | rw [vO_some])
    unfold m_req_Gettttttthtb
    rw [w_eql, outP_val]
    unfold m_req_Gettttttthtbt
    by_cases k5 : z.kind = 5
    case pos =>
      rw [decide_eq_true k5, condP_true]
      obtain ⟨p1, p2⟩ := pr5 (x := z) (B := R) k5
      rw [p1] at fin
      unfold m_req_Gettttttthtbty
      have l5 := q5.ldr
      repeat (first | rw [outP_val] | rw [l5] | rw [w_fieldAddr_ptr] | rw [w_nil_ptr] | rw [Nat.zero_add] | rw [w_load_c] | rw [vO_some])
      rw [outP_enter]
      refine qText_wp q5 _ _ fun G6 t1 e6 q6 k1 => ?_
      have g6 : G6.get op = _ := e6.get (by omega) hno g5
      have n6 := e6.next
      rw [w_load_c, q6.ldr, vO_some, reC_val, beq_ptr, ckP_true, outP_enter]
      refine qText_wp q6 _ _ fun G7 t2 e7 q7 k2 => ?_
      have g : G7.get op = _ := e7.get (by omega) hno g6
      have n7 := e7.next
      repeat (first | rw [outP_val] | rw [g] | rw [get_put_same] | rw [op_s2] | rw [op_s1] | rw [outP_skip] | rw [w_fieldAddr_ptr] | rw [Nat.zero_add] | rw [w_store_c])
      have xp : Ext [op] G7 ((G7.put op (some (.cells 26 (opC (z.s2 t1) (.slice none 0 0 true))))).put op (some (.cells 26 (opC ((z.s2 t1).s1 t2) (.slice none 0 0 true))))) := ((Ext.refl _ _).put (.inr (by simp)) _).put (.inr (by simp)) _
      refine fin _ _ _ (((w e6).trans (w e7)).trans (w' xp)) (q7.hi xp (by simp; omega)) (get_put_same _ _) nil_slk fun p hp => ?_
      obtain ⟨a, b, r1, r2, r3⟩ := p2 p hp
      refine ⟨by rw [k1 a r1, k2 b r2, r3], 0, ?_⟩
      rw [r3, show ((z.s2 a.1).s1 b.1).vec = z.vec from rfl, hv0]
      exact vecF_nil _ _
    rw [decide_eq_false k5, condP_false]
    unfold m_req_Gettttttthtbtn
    rw [w_eql, outP_val]
    unfold m_req_Gettttttthtbtnt
    by_cases k10 : z.kind = 10
    case pos =>
      rw [decide_eq_true k10, condP_true]
      obtain ⟨p1, p2⟩ := pr10 (x := z) (B := R) k10
      rw [p1] at fin
      unfold m_req_Gettttttthtbtnty
      rw [outP_enter]
      refine qNum_wp q5 _ _ fun G6 t1 e6 i6 q6 k1 => ?_
      have g : G6.get op = _ := e6.get (by omega) hno g5
      have n6 := e6.next
      repeat (first | rw [outP_val] | rw [g] | rw [op_s10] | rw [outP_skip] | rw [w_fieldAddr_ptr] | rw [Nat.zero_add] | rw [w_store_c] | rw [w_cint])
      have xp : Ext [op] G6 (G6.put op (some (.cells 26 (opC (z.s10 (IntKind.u32.wrap t1)) (.slice none 0 0 true))))) := (Ext.refl _ _).put (.inr (by simp)) _
      refine fin _ _ _ ((w e6).trans (w' xp)) (q6.hi xp (by simp; omega)) (get_put_same _ _) nil_slk fun p hp => ?_
      obtain ⟨a, r1, r3⟩ := p2 p hp
      have hin := pNum_in (m := 4294967295) (B := R) (p := a) r1
      refine ⟨by rw [k1 a r1, wrapD hin, r3], 0, ?_⟩
      rw [r3, show (z.s10 a.1).vec = z.vec from rfl, hv0]
      exact vecF_nil _ _
    rw [decide_eq_false k10, condP_false]
    unfold m_req_Gettttttthtbtntn
    by_cases kk : z.kind = 7 ∨ z.kind = 8 ∨ z.kind = 9 ∨ z.kind = 11 ∨ z.kind = 14
    case pos =>
      have pr : pRest z R = some (z, R) := by unfold pRest; rw [if_neg k5, if_neg k10, if_pos kk]
      rw [pr] at fin
      have go : m_req_Gettttttthtbtntnt K (.ptr (some (H.next, 0))) (.ptr (some (qp, 0))) (.ptr (some (op, 0))) (.bool true) G5 := by
        unfold m_req_Gettttttthtbtntnt
        rw [condP_true]
        refine fin _ z _ (Ext.refl _ _) q5 g5 nil_slk fun p hp => ?_
        cases hp
        exact ⟨rfl, 0, by rw [hv0]; exact vecF_nil _ _⟩
      rcases kk with c | c | c | c | c <;> simp only [w_eql, outP_val, c, Int.reduceEq, decide_true, decide_false, condP_true, condP_false] <;> exact go
    simp only [w_eql, outP_val, decide_eq_false (show ¬ z.kind = 7 by omega), decide_eq_false (show ¬ z.kind = 8 by omega), decide_eq_false (show ¬ z.kind = 9 by omega), decide_eq_false (show ¬ z.kind = 11 by omega), decide_eq_false (show ¬ z.kind = 14 by omega), condP_false]
    unfold m_req_Gettttttthtbtntnt
    rw [condP_false]
    have l5 := q5.ldr
    repeat (first | rw [outP_val] | rw [l5] | rw [w_fieldAddr_ptr] | rw [w_nil_ptr] | rw [Nat.zero_add] | rw [w_load_c] | rw [vO_some])
    rw [outP_enter]
    refine qText_wp q5 _ _ fun G6 t1 e6 q6 k1 => ?_
    have pd := prD (x := z) (B := R) (by omega) t1 k1
    rw [pd] at fin
    have g : G6.get op = _ := e6.get (by omega) hno g5
    have n6 := e6.next
    repeat (first | rw [outP_val] | rw [g] | rw [op_s1] | rw [outP_skip] | rw [w_fieldAddr_ptr] | rw [Nat.zero_add] | rw [w_store_c])
    have xp : Ext [op] G6 (G6.put op (some (.cells 26 (opC (z.s1 t1) (.slice none 0 0 true))))) := (Ext.refl _ _).put (.inr (by simp)) _
    rw [outP_enter]
    refine behind_wp (q6.hi xp (by simp; omega)) (z.s1 t1) (get_put_same _ _) hv0 (by omega) (by rw [AH.next_put]; omega) _ fun G7 x' v' e7 q7 g7 hv7 k7 => ?_
    exact fin G7 x' v' (((w e6).trans (w' xp)).trans e7) q7 g7 hv7 k7
end
end Go.Ab
