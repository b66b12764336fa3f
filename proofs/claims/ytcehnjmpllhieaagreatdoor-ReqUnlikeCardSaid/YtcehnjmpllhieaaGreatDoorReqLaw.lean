/- Operations as bytes: plain. -/
import Derived.Test.YtcehnjmpllhieaaGreatDoorBinLaw
namespace Go.Ab
set_option maxRecDepth 10000

/-- An operation. -/
structure OpV where
  kind : Int
  col : List UInt8
  name : List UInt8
  id : Int
  dim : Int
  metric : Int
  index : Int
  vec : List Int
  pay : List UInt8
  k : Int
  draw : Int
def OpV.zero : OpV := ⟨0, [], [], 0, 0, 0, 0, [], [], 0, 0⟩
def eqV (a b : OpV) : Bool := decide (a.kind = b.kind) && decide (a.col = b.col) && decide (a.name = b.name) && decide (a.id = b.id) && decide (a.dim = b.dim) && decide (a.metric = b.metric) && decide (a.index = b.index) && decide (a.vec = b.vec) && decide (a.pay = b.pay) && decide (a.k = b.k) && decide (a.draw = b.draw)
theorem eqV_iff (a b : OpV) : eqV a b = true ↔ a = b := by
  cases a; cases b
  simp only [eqV, Bool.and_eq_true, decide_eq_true_eq, OpV.mk.injEq, and_assoc]
def bareV (o : OpV) : OpV :=
  if o.kind = 1 then { OpV.zero with kind := o.kind, dim := o.dim, metric := o.metric, index := o.index, col := o.col }
  else if o.kind = 6 then { OpV.zero with kind := o.kind, index := o.index, col := o.col }
  else if o.kind = 2 ∨ o.kind = 15 then { OpV.zero with kind := o.kind, col := o.col }
  else if o.kind = 3 then { OpV.zero with kind := o.kind, vec := o.vec, pay := o.pay, draw := o.draw, col := o.col, id := o.id }
  else if o.kind = 4 ∨ o.kind = 12 then { OpV.zero with kind := o.kind, col := o.col, id := o.id }
  else if o.kind = 5 then { OpV.zero with kind := o.kind, name := o.name, col := o.col }
  else if o.kind = 10 then { OpV.zero with kind := o.kind, draw := o.draw }
  else if o.kind = 13 then { OpV.zero with kind := o.kind, col := o.col, vec := o.vec, k := o.k }
  else { OpV.zero with kind := o.kind }
abbrev inM (n : Int) : Prop := 0 ≤ n ∧ n ≤ 1000000
/-- An operation that may be. -/
def MayV (o : OpV) : Prop := 1 ≤ o.kind ∧ o.kind ≤ 15 ∧ bareV o = o ∧ o.col.length ≤ 12 ∧ o.name.length ≤ 12 ∧ o.vec.length ≤ 8 ∧ o.pay.length ≤ 40 ∧ inM o.id ∧ inM o.dim ∧ inM o.metric ∧ inM o.index ∧ inM o.k
/-- What any operation's fields are. -/
structure WfV (o : OpV) : Prop where
  k0 : I64 o.kind
  id : I64 o.id
  dim : I64 o.dim
  metric : I64 o.metric
  index : I64 o.index
  k : I64 o.k
  draw : 0 ≤ o.draw ∧ o.draw ≤ 4294967295
  vec : ∀ x ∈ o.vec, -2147483648 ≤ x ∧ x ≤ 2147483647

/-! Texts. -/
def unT (s : List UInt8) : List Int := s.map fun b => (b.toNat : Int)
def toT (L : List Int) : List UInt8 := L.map fun x => UInt8.ofNat x.toNat
theorem toT_unT (s : List UInt8) : toT (unT s) = s := by
  unfold toT unT
  rw [List.map_map]
  refine (List.map_congr_left fun b _ => ?_).trans (List.map_id s)
  show UInt8.ofNat ((b.toNat : Int)).toNat = id b
  rw [Int.toNat_natCast]; exact UInt8.ofNat_toNat
theorem unT_toT {L : List Int} (h : By L) : unT (toT L) = L := by
  unfold toT unT
  rw [List.map_map]
  refine (List.map_congr_left fun x hx => ?_).trans (List.map_id L)
  have hb := h x hx
  show ((UInt8.ofNat x.toNat).toNat : Int) = id x
  rw [UInt8.toNat_ofNat']
  show (((x.toNat) % 256 : Nat) : Int) = x
  omega
theorem unT_len (s : List UInt8) : (unT s).length = s.length := by simp [unT]
theorem toT_len (L : List Int) : (toT L).length = L.length := by simp [toT]
theorem unT_by (s : List UInt8) : By (unT s) := fun x hx => by
  obtain ⟨b, _, rfl⟩ := List.mem_map.1 hx
  have := b.toNat_lt
  omega
def encT (s : List UInt8) : List Int := encZ s.length ++ unT s
def encN (V : List Int) : List Int := encZ V.length ++ V.flatMap encZ
def fieldsV (o : OpV) : List Int :=
  if o.kind = 1 then encZ o.dim ++ encZ o.metric ++ encZ o.index
  else if o.kind = 6 then encZ o.index
  else if o.kind = 4 ∨ o.kind = 12 then encZ o.id
  else if o.kind = 3 then encZ o.id ++ encN o.vec ++ encT o.pay ++ encZ o.draw
  else if o.kind = 13 then encN o.vec ++ encZ o.k
  else []
def restV (o : OpV) : List Int :=
  if o.kind = 5 then encT o.name ++ encT o.col
  else if o.kind = 10 then encZ o.draw
  else if o.kind = 7 ∨ o.kind = 8 ∨ o.kind = 9 ∨ o.kind = 11 ∨ o.kind = 14 then []
  else encT o.col ++ fieldsV o
def opText (o : OpV) : List Int := encZ o.kind ++ restV o

/-! Read. -/
def pNum (m : Int) (B : List Int) : Option (Int × List Int) := (decB B).bind fun p => if 0 ≤ p.1 ∧ p.1 ≤ m then some p else none
def pText (m : Int) (B : List Int) : Option (List UInt8 × List Int) := (decB B).bind fun p => if 0 ≤ p.1 ∧ p.1 ≤ m ∧ p.1 ≤ (p.2.length : Int) then some (toT (p.2.take p.1.toNat), p.2.drop p.1.toNat) else none
def pInts : Nat → List Int → Option (List Int × List Int)
  | 0, B => some ([], B)
  | n + 1, B => (pInts n B).bind fun p => (decB p.2).bind fun q => some (p.1 ++ [q.1], q.2)
def pVec (B : List Int) : Option (List Int × List Int) := (decB B).bind fun p => if 0 ≤ p.1 ∧ p.1 ≤ 8 then (pInts p.1.toNat p.2).bind fun q => if ∀ x ∈ q.1, -2147483648 ≤ x ∧ x ≤ 2147483647 then some q else none else none
abbrev pM : List Int → Option (Int × List Int) := pNum 1000000
abbrev pD : List Int → Option (Int × List Int) := pNum 4294967295
/-- What comes behind Col. -/
def pFields (o : OpV) (B : List Int) : Option (OpV × List Int) :=
  if o.kind = 1 then (pM B).bind fun a => (pM a.2).bind fun b => (pM b.2).bind fun c => some ({ o with dim := a.1, metric := b.1, index := c.1 }, c.2)
  else if o.kind = 6 then (pM B).bind fun a => some ({ o with index := a.1 }, a.2)
  else if o.kind = 4 ∨ o.kind = 12 then (pM B).bind fun a => some ({ o with id := a.1 }, a.2)
  else if o.kind = 3 then (pM B).bind fun a => (pVec a.2).bind fun b => (pText 40 b.2).bind fun c => (pD c.2).bind fun d => some ({ o with id := a.1, vec := b.1, pay := c.1, draw := d.1 }, d.2)
  else if o.kind = 13 then (pVec B).bind fun a => (pM a.2).bind fun b => some ({ o with vec := a.1, k := b.1 }, b.2)
  else some (o, B)
def pRest (o : OpV) (B : List Int) : Option (OpV × List Int) :=
  if o.kind = 5 then (pText 12 B).bind fun a => (pText 12 a.2).bind fun b => some ({ o with name := a.1, col := b.1 }, b.2)
  else if o.kind = 10 then (pD B).bind fun a => some ({ o with draw := a.1 }, a.2)
  else if o.kind = 7 ∨ o.kind = 8 ∨ o.kind = 9 ∨ o.kind = 11 ∨ o.kind = 14 then some (o, B)
  else (pText 12 B).bind fun a => pFields { o with col := a.1 } a.2
def pOp (B : List Int) : Option (OpV × List Int) := (decB B).bind fun p => if 1 ≤ p.1 ∧ p.1 ≤ 15 then pRest { OpV.zero with kind := p.1 } p.2 else none

/-! What was written is read. -/
theorem pNum_enc {m n : Int} (h : 0 ≤ n ∧ n ≤ m) (hi : I64 n) (R : List Int) : pNum m (encZ n ++ R) = some (n, R) := by
  unfold pNum
  rw [dec_enc hi, Option.bind_some, if_pos h]
theorem pText_enc {m : Int} {s : List UInt8} (h : (s.length : Int) ≤ m) (hm : m ≤ 1000) (R : List Int) : pText m (encT s ++ R) = some (s, R) := by
  unfold pText encT
  rw [List.append_assoc, dec_enc ⟨by omega, by omega⟩, Option.bind_some, if_pos ⟨by simp, h, by show (s.length : Int) ≤ ((unT s ++ R).length : Int); rw [List.length_append, unT_len]; omega⟩]
  simp only [Int.toNat_natCast]
  rw [List.take_append_of_le_length (by rw [unT_len]; omega), List.take_of_length_le (by rw [unT_len]; omega), toT_unT, List.drop_append_of_le_length (by rw [unT_len]; omega), List.drop_of_length_le (by rw [unT_len]; omega), List.nil_append]
theorem pInts_enc {V : List Int} (hV : ∀ x ∈ V, I64 x) (R : List Int) : ∀ j, j ≤ V.length → pInts j (V.flatMap encZ ++ R) = some (V.take j, (V.drop j).flatMap encZ ++ R)
  | 0, _ => by simp [pInts]
  | j + 1, h => by
    have ih := pInts_enc hV R j (by omega)
    have hj : j < V.length := by omega
    have e : (V.drop j).flatMap encZ ++ R = encZ V[j] ++ ((V.drop (j + 1)).flatMap encZ ++ R) := by
      rw [List.drop_eq_getElem_cons hj, List.flatMap_cons, List.append_assoc]
    have d := dec_enc (hV _ (List.getElem_mem hj)) ((V.drop (j + 1)).flatMap encZ ++ R)
    rw [← e] at d
    show (pInts j (V.flatMap encZ ++ R)).bind _ = _
    rw [ih, Option.bind_some]
    show (decB ((V.drop j).flatMap encZ ++ R)).bind _ = _
    rw [d, Option.bind_some, List.take_succ_eq_append_getElem hj]
theorem pVec_enc {V : List Int} (hV : ∀ x ∈ V, -2147483648 ≤ x ∧ x ≤ 2147483647) (hl : V.length ≤ 8) (R : List Int) : pVec (encN V ++ R) = some (V, R) := by
  unfold pVec encN
  rw [List.append_assoc, dec_enc ⟨by omega, by omega⟩, Option.bind_some, if_pos ⟨by simp, by simp; omega⟩]
  have e := pInts_enc (fun x hx => by have := hV x hx; exact ⟨by omega, by omega⟩) R V.length (Nat.le_refl _)
  rw [List.take_length, List.drop_length] at e
  simp only [Int.toNat_natCast]
  rw [e, Option.bind_some, if_pos hV]
  simp
theorem i64_M {n : Int} (h : inM n) : I64 n := ⟨by omega, by omega⟩
theorem kind_cases {n : Int} (h1 : 1 ≤ n) (h2 : n ≤ 15) : n = 1 ∨ n = 2 ∨ n = 3 ∨ n = 4 ∨ n = 5 ∨ n = 6 ∨ n = 7 ∨ n = 8 ∨ n = 9 ∨ n = 10 ∨ n = 11 ∨ n = 12 ∨ n = 13 ∨ n = 14 ∨ n = 15 := by omega
theorem pOp_text {o : OpV} (h : MayV o) (w : WfV o) (R : List Int) : pOp (opText o ++ R) = some (o, R) := by
  obtain ⟨h1, h2, hb, hc, hn, hv, hp, m1, m2, m3, m4, m5⟩ := h
  have w1 := w.draw
  have w2 := w.vec
  clear w
  obtain ⟨kind, col, name, id, dim, metric, index, vec, pay, k, draw⟩ := o
  simp only at *
  have tc := fun R => pText_enc (m := 12) (s := col) (by omega) (by decide) R
  have tn := fun R => pText_enc (m := 12) (s := name) (by omega) (by decide) R
  have tp := fun R => pText_enc (m := 40) (s := pay) (by omega) (by decide) R
  have tv := fun R => pVec_enc w2 hv R
  have n1 := fun R => pNum_enc m1 (i64_M m1) R
  have n2 := fun R => pNum_enc m2 (i64_M m2) R
  have n3 := fun R => pNum_enc m3 (i64_M m3) R
  have n4 := fun R => pNum_enc m4 (i64_M m4) R
  have n5 := fun R => pNum_enc m5 (i64_M m5) R
  have n6 := fun R => pNum_enc w1 ⟨by omega, by omega⟩ R
  unfold pOp opText
  simp only [List.append_assoc]
  rw [dec_enc ⟨by omega, by omega⟩, Option.bind_some, if_pos ⟨h1, h2⟩]
  rcases kind_cases h1 h2 with rfl | rfl | rfl | rfl | rfl | rfl | rfl | rfl | rfl | rfl | rfl | rfl | rfl | rfl | rfl <;>
    simp [bareV, OpV.zero, eq_comm (a := (0 : Int))] at hb <;>
    simp [pRest, restV, fieldsV, pFields, OpV.zero, tc, tn, tp, tv, n1, n2, n3, n4, n5, n6, List.append_assoc, hb]

/-! What is read was written. -/
theorem bind_some' {α β : Type} {x : Option α} {f : α → Option β} {b : β} (h : x.bind f = some b) : ∃ a, x = some a ∧ f a = some b := Option.bind_eq_some_iff.1 h
theorem enc_pNum {m n : Int} {B R : List Int} (hB : By B) (h : pNum m B = some (n, R)) : B = encZ n ++ R ∧ (0 ≤ n ∧ n ≤ m) ∧ By R := by
  obtain ⟨p, h1, h2⟩ := bind_some' h
  obtain ⟨a, Q⟩ := p
  split at h2
  · rename_i c
    cases h2
    obtain ⟨e, _⟩ := enc_dec hB h1
    exact ⟨e, c, fun x hx => hB x (by rw [e]; simp [hx])⟩
  · cases h2
theorem enc_pText {m : Int} {s : List UInt8} {B R : List Int} (hB : By B) (h : pText m B = some (s, R)) : B = encT s ++ R ∧ (s.length : Int) ≤ m ∧ By R := by
  obtain ⟨p, h1, h2⟩ := bind_some' h
  obtain ⟨a, Q⟩ := p
  obtain ⟨e, _⟩ := enc_dec hB h1
  have hQ : By Q := fun x hx => hB x (by rw [e]; simp [hx])
  split at h2
  · rename_i c
    simp only [Option.some.injEq, Prod.mk.injEq] at h2 c
    obtain ⟨rfl, rfl⟩ := h2
    have hl : (toT (Q.take a.toNat)).length = a.toNat := by rw [toT_len, List.length_take]; omega
    refine ⟨?_, by rw [hl]; omega, fun x hx => hQ x (List.mem_of_mem_drop hx)⟩
    unfold encT
    rw [hl, Int.toNat_of_nonneg c.1, unT_toT fun x hx => hQ x (List.mem_of_mem_take hx), List.append_assoc, List.take_append_drop]
    exact e
  · cases h2
theorem enc_pInts {B : List Int} (hB : By B) : ∀ (k : Nat) (V R : List Int), pInts k B = some (V, R) → B = V.flatMap encZ ++ R ∧ By R ∧ V.length = k
  | 0, V, R, h => by cases h; exact ⟨by simp, hB, rfl⟩
  | k + 1, V, R, h => by
    obtain ⟨p, h1, h2⟩ := bind_some' h
    obtain ⟨q, h3, h4⟩ := bind_some' h2
    obtain ⟨e1, e2, e3⟩ := enc_pInts hB k p.1 p.2 h1
    obtain ⟨n, Q⟩ := q
    cases h4
    obtain ⟨e4, _⟩ := enc_dec e2 h3
    refine ⟨?_, fun x hx => e2 x (by rw [e4]; simp [hx]), by simp [e3]⟩
    rw [List.flatMap_append, List.append_assoc]
    simp only [List.flatMap_cons, List.flatMap_nil, List.append_nil]
    rw [← e4]; exact e1
theorem enc_pVec {V B R : List Int} (hB : By B) (h : pVec B = some (V, R)) : B = encN V ++ R ∧ (V.length ≤ 8 ∧ ∀ x ∈ V, -2147483648 ≤ x ∧ x ≤ 2147483647) ∧ By R := by
  obtain ⟨p, h1, h2⟩ := bind_some' h
  obtain ⟨a, Q⟩ := p
  obtain ⟨e, _⟩ := enc_dec hB h1
  have hQ : By Q := fun x hx => hB x (by rw [e]; simp [hx])
  split at h2
  · rename_i c
    obtain ⟨q, h3, h4⟩ := bind_some' h2
    split at h4
    · rename_i c2
      cases h4
      obtain ⟨e1, e2, e3⟩ := enc_pInts hQ _ _ _ h3
      simp only at c e1
      refine ⟨?_, ⟨by omega, c2⟩, e2⟩
      unfold encN
      rw [e3, Int.toNat_of_nonneg c.1, List.append_assoc, ← e1]
      exact e
    · cases h4
  · cases h2
theorem wf_zero (n : Int) (h1 : 1 ≤ n) (h2 : n ≤ 15) : WfV { OpV.zero with kind := n } := by
  have z : I64 0 := by constructor <;> decide
  exact ⟨⟨by simp only []; omega, by simp only []; omega⟩, z, z, z, z, z, by simp [OpV.zero], fun x hx => (List.not_mem_nil hx).elim⟩
theorem pOp_some {B R : List Int} {o : OpV} (hB : By B) (h : pOp B = some (o, R)) : B = opText o ++ R ∧ MayV o ∧ WfV o := by
  obtain ⟨p, h1, h2⟩ := bind_some' h
  obtain ⟨n, Q⟩ := p
  obtain ⟨e, _⟩ := enc_dec hB h1
  have hQ : By Q := fun x hx => hB x (by rw [e]; simp [hx])
  split at h2
  case isFalse => cases h2
  rename_i c
  obtain ⟨c1, c2⟩ := c
  simp only at c1 c2 h2
  have wz := wf_zero n c1 c2
  suffices key : Q = restV o ++ R ∧ o.kind = n ∧ bareV o = o ∧ o.col.length ≤ 12 ∧ o.name.length ≤ 12 ∧ o.vec.length ≤ 8 ∧ o.pay.length ≤ 40 ∧ inM o.id ∧ inM o.dim ∧ inM o.metric ∧ inM o.index ∧ inM o.k ∧ (0 ≤ o.draw ∧ o.draw ≤ 4294967295) ∧ (∀ x ∈ o.vec, -2147483648 ≤ x ∧ x ≤ 2147483647) by
    obtain ⟨q0, q1, q2, q3, q4, q5, q6, q7, q8, q9, q10, q11, q12, q13⟩ := key
    refine ⟨?_, ⟨by omega, by omega, q2, q3, q4, q5, q6, q7, q8, q9, q10, q11⟩, ⟨⟨by omega, by omega⟩, i64_M q7, i64_M q8, i64_M q9, i64_M q10, i64_M q11, q12, q13⟩⟩
    unfold opText
    rw [q1, List.append_assoc, ← q0]; exact e
  clear e h1 hB h wz
  have z : inM 0 := by constructor <;> decide
  have z2 : (0 : Int) ≤ 4294967295 := by decide
  rcases kind_cases c1 c2 with rfl | rfl | rfl | rfl | rfl | rfl | rfl | rfl | rfl | rfl | rfl | rfl | rfl | rfl | rfl
  · simp [pRest, pFields, OpV.zero, Option.bind_eq_some_iff] at h2
    obtain ⟨a, A, p1, b, B, p2, d, D, p3, f, p4, rfl⟩ := h2
    obtain ⟨e1, f1, g1⟩ := enc_pText hQ p1
    obtain ⟨e2, f2, g2⟩ := enc_pNum g1 p2
    obtain ⟨e3, f3, g3⟩ := enc_pNum g2 p3
    obtain ⟨e4, f4, g4⟩ := enc_pNum g3 p4
    refine ⟨by rw [e1, e2, e3, e4]; simp [restV, fieldsV], rfl, by simp [bareV, OpV.zero], by simp only []; omega, by simp, by simp, by simp, z, f2, f3, f4, z, ⟨Int.le_refl _, z2⟩, by simp⟩
  · simp [pRest, pFields, OpV.zero, Option.bind_eq_some_iff] at h2
    obtain ⟨a, p1, rfl⟩ := h2
    obtain ⟨e1, f1, g1⟩ := enc_pText hQ p1
    refine ⟨by rw [e1]; simp [restV, fieldsV], rfl, by simp [bareV, OpV.zero], by simp only []; omega, by simp, by simp, by simp, z, z, z, z, z, ⟨Int.le_refl _, z2⟩, by simp⟩
  · simp [pRest, pFields, OpV.zero, Option.bind_eq_some_iff] at h2
    obtain ⟨a, A, p1, b, B, p2, d, D, p3, f, F, p4, k, p5, rfl⟩ := h2
    obtain ⟨e1, f1, g1⟩ := enc_pText hQ p1
    obtain ⟨e2, f2, g2⟩ := enc_pNum g1 p2
    obtain ⟨e3, f3, g3⟩ := enc_pVec g2 p3
    obtain ⟨e4, f4, g4⟩ := enc_pText g3 p4
    obtain ⟨e5, f5, g5⟩ := enc_pNum g4 p5
    refine ⟨by rw [e1, e2, e3, e4, e5]; simp [restV, fieldsV], rfl, by simp [bareV, OpV.zero], by simp only []; omega, by simp, f3.1, by simp only []; omega, f2, z, z, z, z, f5, f3.2⟩
  · simp [pRest, pFields, OpV.zero, Option.bind_eq_some_iff] at h2
    obtain ⟨a, A, p1, b, p2, rfl⟩ := h2
    obtain ⟨e1, f1, g1⟩ := enc_pText hQ p1
    obtain ⟨e2, f2, g2⟩ := enc_pNum g1 p2
    refine ⟨by rw [e1, e2]; simp [restV, fieldsV], rfl, by simp [bareV, OpV.zero], by simp only []; omega, by simp, by simp, by simp, f2, z, z, z, z, ⟨Int.le_refl _, z2⟩, by simp⟩
  · simp [pRest, OpV.zero, Option.bind_eq_some_iff] at h2
    obtain ⟨a, A, p1, b, p2, rfl⟩ := h2
    obtain ⟨e1, f1, g1⟩ := enc_pText hQ p1
    obtain ⟨e2, f2, g2⟩ := enc_pText g1 p2
    refine ⟨by rw [e1, e2]; simp [restV], rfl, by simp [bareV, OpV.zero], by simp only []; omega, by simp only []; omega, by simp, by simp, z, z, z, z, z, ⟨Int.le_refl _, z2⟩, by simp⟩
  · simp [pRest, pFields, OpV.zero, Option.bind_eq_some_iff] at h2
    obtain ⟨a, A, p1, b, p2, rfl⟩ := h2
    obtain ⟨e1, f1, g1⟩ := enc_pText hQ p1
    obtain ⟨e2, f2, g2⟩ := enc_pNum g1 p2
    refine ⟨by rw [e1, e2]; simp [restV, fieldsV], rfl, by simp [bareV, OpV.zero], by simp only []; omega, by simp, by simp, by simp, z, z, z, f2, z, ⟨Int.le_refl _, z2⟩, by simp⟩
  · simp [pRest, OpV.zero ] at h2
    obtain ⟨rfl, rfl⟩ := h2
    exact ⟨by simp [restV], rfl, by simp [bareV, OpV.zero], by simp, by simp, by simp, by simp, z, z, z, z, z, ⟨Int.le_refl _, z2⟩, by simp⟩
  · simp [pRest, OpV.zero ] at h2
    obtain ⟨rfl, rfl⟩ := h2
    exact ⟨by simp [restV], rfl, by simp [bareV, OpV.zero], by simp, by simp, by simp, by simp, z, z, z, z, z, ⟨Int.le_refl _, z2⟩, by simp⟩
  · simp [pRest, OpV.zero ] at h2
    obtain ⟨rfl, rfl⟩ := h2
    exact ⟨by simp [restV], rfl, by simp [bareV, OpV.zero], by simp, by simp, by simp, by simp, z, z, z, z, z, ⟨Int.le_refl _, z2⟩, by simp⟩
  · simp [pRest, OpV.zero, Option.bind_eq_some_iff] at h2
    obtain ⟨a, p1, rfl⟩ := h2
    obtain ⟨e1, f1, g1⟩ := enc_pNum hQ p1
    refine ⟨by rw [e1]; simp [restV], rfl, by simp [bareV, OpV.zero], by simp, by simp, by simp, by simp, z, z, z, z, z, f1, by simp⟩
  · simp [pRest, OpV.zero ] at h2
    obtain ⟨rfl, rfl⟩ := h2
    exact ⟨by simp [restV], rfl, by simp [bareV, OpV.zero], by simp, by simp, by simp, by simp, z, z, z, z, z, ⟨Int.le_refl _, z2⟩, by simp⟩
  · simp [pRest, pFields, OpV.zero, Option.bind_eq_some_iff] at h2
    obtain ⟨a, A, p1, b, p2, rfl⟩ := h2
    obtain ⟨e1, f1, g1⟩ := enc_pText hQ p1
    obtain ⟨e2, f2, g2⟩ := enc_pNum g1 p2
    refine ⟨by rw [e1, e2]; simp [restV, fieldsV], rfl, by simp [bareV, OpV.zero], by simp only []; omega, by simp, by simp, by simp, f2, z, z, z, z, ⟨Int.le_refl _, z2⟩, by simp⟩
  · simp [pRest, pFields, OpV.zero, Option.bind_eq_some_iff] at h2
    obtain ⟨a, A, p1, b, B, p2, d, p3, rfl⟩ := h2
    obtain ⟨e1, f1, g1⟩ := enc_pText hQ p1
    obtain ⟨e2, f2, g2⟩ := enc_pVec g1 p2
    obtain ⟨e3, f3, g3⟩ := enc_pNum g2 p3
    refine ⟨by rw [e1, e2, e3]; simp [restV, fieldsV], rfl, by simp [bareV, OpV.zero], by simp only []; omega, by simp, f2.1, by simp, z, z, z, z, f3, ⟨Int.le_refl _, z2⟩, f2.2⟩
  · simp [pRest, OpV.zero ] at h2
    obtain ⟨rfl, rfl⟩ := h2
    exact ⟨by simp [restV], rfl, by simp [bareV, OpV.zero], by simp, by simp, by simp, by simp, z, z, z, z, z, ⟨Int.le_refl _, z2⟩, by simp⟩
  · simp [pRest, pFields, OpV.zero, Option.bind_eq_some_iff] at h2
    obtain ⟨a, p1, rfl⟩ := h2
    obtain ⟨e1, f1, g1⟩ := enc_pText hQ p1
    refine ⟨by rw [e1]; simp [restV, fieldsV], rfl, by simp [bareV, OpV.zero], by simp only []; omega, by simp, by simp, by simp, z, z, z, z, z, ⟨Int.le_refl _, z2⟩, by simp⟩

/-! The laws. -/
theorem text_inj {a b : OpV} (ha : MayV a) (wa : WfV a) (hb : MayV b) (wb : WfV b) (h : opText a = opText b) : a = b := by
  have h1 := pOp_text ha wa []
  have h2 := pOp_text hb wb []
  rw [h, h2] at h1
  exact (Prod.mk.inj (Option.some.inj h1)).1.symm
/-- A text that was cut off is none. -/
theorem pOp_cut {o p : OpV} {x R : List Int} (ho : MayV o) (wo : WfV o) (hx : By x) (hp : pOp x = some (p, [])) (e : opText o = x ++ R) : R = [] := by
  obtain ⟨e1, hm, hw⟩ := pOp_some hx hp
  rw [List.append_nil] at e1
  have h1 := pOp_text ho wo []
  rw [List.append_nil, e, e1, pOp_text hm hw] at h1
  exact (Prod.mk.inj (Option.some.inj h1)).2
end Go.Ab
