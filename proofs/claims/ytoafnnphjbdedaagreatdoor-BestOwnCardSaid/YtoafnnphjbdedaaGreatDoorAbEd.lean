/- The words for slices, worked out on what is known. -/
import Derived.Test.YtoafnnphjbdedaaGreatDoorAbEc
namespace Go.Ab
variable {P : Program} {C : CW} {H : AH}

theorem natZ_cast (j : Nat) : natZ (j : Int) = some j := rfl
theorem w_len_sl {t e : TypeId} (hu : P.underlying t = some (.slice e)) (p : Option (Nat × Nat)) (n c : Nat) (ex : Bool) : w_len P t H (.slice p n c ex) = some (.val (.int .i64 n) H) := by
  simp only [w_len, lenF, hu, oArgs1v, val_mk, vO, ob_some]; rfl
theorem w_len_str {t : TypeId} (hu : P.underlying t = some .string) (s : List UInt8) : w_len P t H (.str s) = some (.val (.int .i64 s.length) H) := by
  simp only [w_len, lenF, hu, oArgs1v, val_mk, vO, ob_some]; rfl
theorem w_len_tail {t e : TypeId} (hu : P.underlying t = some (.slice e)) (b o : Nat) : w_len P t H (.tail b o) = some (.val (.int .i64 0) H) := by
  simp only [w_len, lenF, hu, oArgs1v, val_mk, vO, ob_some]; rfl
theorem w_cap_sl {t e : TypeId} (hu : P.underlying t = some (.slice e)) (p : Option (Nat × Nat)) (n c : Nat) : w_cap P t H (.slice p n c true) = some (.val (.int .i64 c) H) := by
  simp only [w_cap, capF, hu, oArgs1p, val_mk, vO, ob_some]; rfl

theorem condT {p : Prop} [Decidable p] {x y : Prop} (h : p) (k : x) : condP (.bool (decide p)) x y := by rw [decide_eq_true h]; exact k
theorem condF {p : Prop} [Decidable p] {x y : Prop} (h : ¬ p) (k : y) : condP (.bool (decide p)) x y := by rw [decide_eq_false h]; exact k
theorem w_add_in {a b : Int} (h1 : -9223372036854775808 ≤ a + b) (h2 : a + b ≤ 9223372036854775807) : w_int .add H (.int .i64 a) (.int .i64 b) = some (.val (.int .i64 (a + b)) H) := by rw [w_add, wrap64_in h1 h2]
theorem w_sub_in {a b : Int} (h1 : -9223372036854775808 ≤ a - b) (h2 : a - b ≤ 9223372036854775807) : w_int .sub H (.int .i64 a) (.int .i64 b) = some (.val (.int .i64 (a - b)) H) := by rw [w_sub, wrap64_in h1 h2]
theorem w_mul_in {a b : Int} (h1 : -9223372036854775808 ≤ a * b) (h2 : a * b ≤ 9223372036854775807) : w_int .mul H (.int .i64 a) (.int .i64 b) = some (.val (.int .i64 (a * b)) H) := by rw [w_mul, wrap64_in h1 h2]
/-- A natural sum. -/
theorem w_add_nat {a b : Nat} (h : a + b ≤ 9223372036854775807) : w_int .add H (.int .i64 a) (.int .i64 b) = some (.val (.int .i64 ((a + b : Nat) : Int)) H) := by
  rw [w_add_in (by omega) (by omega), Int.natCast_add]
theorem w_sub_nat {a b : Nat} (h : b ≤ a) (h2 : a ≤ 9223372036854775807) : w_int .sub H (.int .i64 a) (.int .i64 b) = some (.val (.int .i64 ((a - b : Nat) : Int)) H) := by
  rw [w_sub_in (by omega) (by omega), Int.natCast_sub h]

/-! Slicing. -/
theorem bndA_of {y i : Nat} (k : IntKind) (h : i ≤ y) : bndA y (.int k i) = some i := by
  have : Nat.ble i y = true := by simpa using h
  simp only [bndA, natZ_cast, ob_some, this, br_true]
def loB : Option (IntKind × Nat) → Option AV
  | none => none
  | some (k, i) => some (.int k i)
def loN (d : Nat) : Option (IntKind × Nat) → Nat
  | none => d
  | some (_, i) => i
/-- Slicing, without a third bound, a slice whose room is known. -/
theorem w_slice_ex {sz b o n c : Nat} {hasHi : Bool} (lo hi : Option (IntKind × Nat)) (h1 : loN 0 lo ≤ loN n hi) (h2 : loN n hi ≤ c) :
    w_slice (.sl sz) hasHi false H (.slice (some (b, o)) n c true) (loB lo) (loB hi) none = some (.val (.slice (some (b, if c = loN 0 lo then o else o + loN 0 lo * sz)) (loN n hi - loN 0 lo) (c - loN 0 lo) true) H) := by
  have e1 : bndO n c (loB hi) = some (loN n hi) := by cases hi with | none => rfl | some p => obtain ⟨k, i⟩ := p; exact bndA_of k h2
  have e2 : bndO 0 (loN n hi) (loB lo) = some (loN 0 lo) := by cases lo with | none => rfl | some p => obtain ⟨k, i⟩ := p; exact bndA_of k h1
  have e3 : ∀ x y : Option (Nat × Nat), br (Nat.beq c (loN 0 lo)) x y = if c = loN 0 lo then x else y := fun x y => by rw [br_eq]; simp only [Nat.beq_eq]
  have e0 : bndO c c none = some c := rfl
  simp only [w_slice, sliceA, Bool.false_and, br_false, val_mk, bndsTo, e0, ob_some, e1, e2]
  simp only [Bool.or_true, br_true, e3]
  by_cases hc : c = loN 0 lo
  · simp only [hc, if_true]; rfl
  · simp only [hc, if_false]; rfl
/-- .. one that is open behind, which stays no longer than it is. -/
theorem w_slice_op {sz b o n c : Nat} {hasHi : Bool} (lo hi : Option (IntKind × Nat)) (h1 : loN 0 lo ≤ loN n hi) (h2 : loN n hi ≤ c) (h3 : loN 0 lo < c) :
    w_slice (.sl sz) hasHi false H (.slice (some (b, o)) n c false) (loB lo) (loB hi) none = some (.val (.slice (some (b, o + loN 0 lo * sz)) (loN n hi - loN 0 lo) (c - loN 0 lo) false) H) := by
  have e1 : bndO n c (loB hi) = some (loN n hi) := by cases hi with | none => rfl | some p => obtain ⟨k, i⟩ := p; exact bndA_of k h2
  have e2 : bndO 0 (loN n hi) (loB lo) = some (loN 0 lo) := by cases lo with | none => rfl | some p => obtain ⟨k, i⟩ := p; exact bndA_of k h1
  have e3 : Nat.beq c (loN 0 lo) = false := Bool.eq_false_iff.2 fun q => by have := Nat.eq_of_beq_eq_true q; omega
  have e4 : Nat.ble (loN 0 lo) c = true := by simpa using Nat.le_of_lt h3
  have e0 : bndO c c none = some c := rfl
  simp only [w_slice, sliceA, Bool.false_and, br_false, val_mk, bndsTo, e0, ob_some, e1, e2]
  simp only [Bool.or_false, br_false, e3, e4, br_true]
  rfl

/-! Cells of slices. -/
/-- The first n elements of a slice, as cells. -/
theorem sliceCells_cells {sz b o n m c : Nat} {ex : Bool} {e : TypeId} {cs L : List AV} (h : H.get b = some (.cells e cs)) (hm : m ≤ n) (ho : o + m * sz ≤ cs.length) (hL : (cs.drop o).take (m * sz) = L) (hk : L.all AV.known = true) :
    sliceCells H sz m (.slice (some (b, o)) n c ex) = some L := by
  have h1 : Nat.ble m n = true := by simpa using hm
  simp only [sliceCells, h1, br_true]
  rw [br_eq]
  split
  · rename_i h0
    have h0 : m = 0 := by simpa using h0
    subst h0
    simp at hL; rw [← hL]
  · simp only [rowTo, h, cut_eq]
    have : o + Nat.mul m sz ≤ cs.length := ho
    rw [if_pos this]
    show ob (some ((cs.drop o).take (m * sz))) (fun l => br (allB AV.known l) (some l) none) = _
    rw [ob_some, hL, allB_eq, hk, br_true]
theorem sliceCells_nil (sz c : Nat) (ex : Bool) (n : Nat) : sliceCells H sz 0 (.slice none n c ex) = some [] := rfl

/-- append of one slice to another one: there is room, and it is known. -/
theorem w_append_room {e sz by_ b o n c m : Nat} {x : AV} {cs V : List AV} {t : TypeId} (hn : lenA x = some m) (hV : sliceCells H sz m x = some V) (hroom : n + m ≤ c) (h : H.get b = some (.cells t cs)) (hne : V ≠ []) (hlen : o + n * sz + V.length ≤ cs.length) :
    w_append e sz by_ H (.slice (some (b, o)) n c true) x none = some (.val (.slice (some (b, o)) (n + m) c true) (H.put b (some (.cells t (cs.take (o + n * sz) ++ (V ++ cs.drop (o + n * sz + V.length))))))) := by
  have h1 : Nat.ble (Nat.add n m) c = true := by simpa using hroom
  have hw := writeA_eq (o := o + n * sz) h hne hlen
  simp only [w_append, newCells, hn, hV, ob_some, ob2_some, appendTo, h1, br_true]
  show ob (writeA H b (o + n * sz) V) _ = _
  rw [hw, ob_some]; rfl
/-- .. there is none: a new row. -/
theorem w_append_grow {e sz by_ n c m : Nat} {p : Option (Nat × Nat)} {x : AV} {V L : List AV} (hn : lenA x = some m) (hV : sliceCells H sz m x = some V) (hroom : c < n + m) (hby : (2 * (n + m) + 1024) * by_ ≤ 281474976710656) (hL : sliceCells H sz n (.slice p n c true) = some L) :
    w_append e sz by_ H (.slice p n c true) x none = some (.val (.slice (some (H.next, 0)) (n + m) (n + m) false) (H.new (.cells e (L ++ V)))) := by
  have h1 : Nat.ble (Nat.add n m) c = false := Bool.eq_false_iff.2 fun q => absurd (show n + m ≤ c from Nat.le_of_ble_eq_true q) (by omega)
  have h2 : Nat.ble (Nat.mul (Nat.add (Nat.mul 2 (Nat.add n m)) 1024) by_) 281474976710656 = true := by simpa using hby
  simp only [w_append, newCells, hn, hV, ob_some, ob2_some, appendTo, h1, h2, br_true, br_false, hL, openNew, newTo_none_eq, joinL_eq]
  rfl
/-- append of zero elements. -/
theorem w_appendZ_grow {e sz by_ n c m : Nat} {p : Option (Nat × Nat)} {k : IntKind} {z L : List AV} (hroom : c < n + m) (hm : m ≤ 1000000000) (hmb : m * by_ ≤ 281474976710656) (hby : (2 * (n + m) + 1024) * by_ ≤ 281474976710656) (hL : sliceCells H sz n (.slice p n c true) = some L) :
    w_appendZ e sz by_ z H (.slice p n c true) (.int k m) none = some (.val (.slice (some (H.next, 0)) (n + m) (n + m) false) (H.new (.cells e (L ++ reps m z)))) := by
  have h1 : Nat.ble (Nat.add n m) c = false := Bool.eq_false_iff.2 fun q => absurd (show n + m ≤ c from Nat.le_of_ble_eq_true q) (by omega)
  have h2 : Nat.ble (Nat.mul (Nat.add (Nat.mul 2 (Nat.add n m)) 1024) by_) 281474976710656 = true := by simpa using hby
  have h3 : Nat.ble m 1000000000 = true := by simpa using hm
  have h4 : Nat.ble (Nat.mul m by_) 281474976710656 = true := by simpa using hmb
  simp only [w_appendZ, newZeros, natZ_cast, h3, h4, br_true, ob_some, ob2_some, appendTo, h1, h2, br_false, hL, openNew, newTo_none_eq, joinL_eq]
  rfl
/-- copy. -/
theorem w_copy_of {t e : TypeId} {sz b o n c k m : Nat} {ex : Bool} {x : AV} {cs V : List AV} {t' : TypeId} (hu : P.underlying t = some (.slice e)) (hz : szOf P e = some sz) (hn : lenA x = some k) (hm : m = min k n) (hV : sliceCells H sz m x = some V) (h : H.get b = some (.cells t' cs)) (hne : V ≠ []) (hlen : o + V.length ≤ cs.length) :
    w_copy P t H (.slice (some (b, o)) n c ex) x = some (.val (.int .i64 m) (H.put b (some (.cells t' (cs.take o ++ (V ++ cs.drop (o + V.length))))))) := by
  have hw := writeA_eq (o := o) h hne hlen
  have hs : slT P t = some e := by simp only [slT, hu]
  have hm' : Nat.min k n = m := by rw [hm]
  simp only [w_copy, copyF, hs, hz, oArgs2, val_mk, hn, ob_some, hm', hV, hw]
theorem lenA_sl (p : Option (Nat × Nat)) (n c : Nat) (ex : Bool) : lenA (.slice p n c ex) = some n := rfl
theorem condB {b : Bool} {x y : Prop} (h : b = true) (k : x) : condP (.bool b) x y := by subst h; exact k
theorem condN {b : Bool} {x y : Prop} (h : b = false) (k : y) : condP (.bool b) x y := by subst h; exact k
/-- A call of what is known. -/
theorem prim_wp {prim : PrimF} {f : FuncId} {g : List AV → AH → Option (AV × AH)} {args : List AV} {v : AV} {H' : AH} {K : AV → AH → Prop} (h : prim f = some g) (hg : g args H = some (v, H')) (k : K v H') : (WP P prim).call f args H K := by
  refine ⟨1, v, H', fun m hm => ?_, k⟩
  obtain ⟨m, rfl⟩ : ∃ j, m = j + 1 := ⟨m - 1, by omega⟩
  show callStep P prim _ _ m f args H = _
  unfold callStep
  rw [h]; exact hg

/-! Lists, place by place. -/
theorem seg_eq {α : Type} {cs X : List α} {o k : Nat} (hX : X.length = k) (h : ∀ j, j < k → cs[o + j]? = X[j]?) : (cs.drop o).take k = X := by
  refine List.ext_getElem? fun j => ?_
  rw [List.getElem?_take, List.getElem?_drop]
  split
  · exact h j (by assumption)
  · rw [List.getElem?_eq_none (by omega)]
theorem seg_get {α : Type} {cs L : List α} {o k j : Nat} (hL : L = (cs.drop o).take k) (hj : j < k) : L[j]? = cs[o + j]? := by
  rw [hL, List.getElem?_take, if_pos hj, List.getElem?_drop]
theorem splice_get {α : Type} (cs V : List α) (o j : Nat) (h : o + V.length ≤ cs.length) : (cs.take o ++ (V ++ cs.drop (o + V.length)))[j]? = if j < o then cs[j]? else if j < o + V.length then V[j - o]? else cs[j]? := by
  have h1 : (cs.take o).length = o := by rw [List.length_take]; omega
  by_cases c1 : j < o
  · rw [List.getElem?_append_left (by omega), List.getElem?_take, if_pos c1, if_pos c1]
  · rw [List.getElem?_append_right (by omega), h1, if_neg c1]
    by_cases c2 : j < o + V.length
    · rw [List.getElem?_append_left (by omega), if_pos c2]
    · rw [List.getElem?_append_right (by omega), if_neg c2, List.getElem?_drop]; congr 1; omega
theorem splice_length {α : Type} (cs V : List α) (o : Nat) (h : o + V.length ≤ cs.length) : (cs.take o ++ (V ++ cs.drop (o + V.length))).length = cs.length := by
  simp only [List.length_append, List.length_take, List.length_drop]; omega
theorem insert_get {α : Type} (L V : List α) (a j : Nat) (h : a ≤ L.length) : (L.take a ++ (V ++ L.drop a))[j]? = if j < a then L[j]? else if j < a + V.length then V[j - a]? else L[j - V.length]? := by
  have h1 : (L.take a).length = a := by rw [List.length_take]; omega
  by_cases c1 : j < a
  · rw [List.getElem?_append_left (by omega), List.getElem?_take, if_pos c1, if_pos c1]
  · rw [List.getElem?_append_right (by omega), h1, if_neg c1]
    by_cases c2 : j < a + V.length
    · rw [List.getElem?_append_left (by omega), if_pos c2]
    · rw [List.getElem?_append_right (by omega), if_neg c2, List.getElem?_drop]; congr 1; omega
theorem insert_length {α : Type} (L V : List α) (a : Nat) (h : a ≤ L.length) : (L.take a ++ (V ++ L.drop a)).length = L.length + V.length := by
  simp only [List.length_append, List.length_take, List.length_drop]; omega
end Go.Ab
