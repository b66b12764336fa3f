/- Slices that are owned: read, written, appended to. -/
import Derived.Test.YtoafnnphjbdedaaGreatDoorAbGa
namespace Go.Ab
noncomputable section
variable {P : Program} {C : CW} {H H' : AH}

/-! Rows of elements, one behind the other. -/
theorem flatten_len {sz : Nat} : ∀ {X : List (List AV)}, (∀ x ∈ X, x.length = sz) → X.flatten.length = X.length * sz
  | [], _ => by simp
  | x :: X, h => by
    rw [List.flatten_cons, List.length_append, flatten_len fun y hy => h y (by simp [hy]), h x (by simp), List.length_cons, Nat.succ_mul]; omega
theorem flatten_at {sz : Nat} : ∀ {X : List (List AV)}, (∀ x ∈ X, x.length = sz) → ∀ {j : Nat} {x : List AV}, X[j]? = some x → ∀ {i : Nat}, i < sz → X.flatten[j * sz + i]? = x[i]?
  | [], _, j, x, h, _, _ => by simp at h
  | y :: X, h, 0, x, hx, i, hi => by
    simp at hx; subst hx
    rw [List.flatten_cons, List.getElem?_append_left (by rw [h y (by simp)]; omega)]; congr 1; omega
  | y :: X, h, j + 1, x, hx, i, hi => by
    have h1 := h y (by simp)
    have e : (j + 1) * sz + i = sz + (j * sz + i) := by rw [Nat.succ_mul]; omega
    rw [List.flatten_cons, List.getElem?_append_right (by rw [h1, e]; omega), h1]
    rw [← flatten_at (X := X) (fun y hy => h y (by simp [hy])) (j := j) (x := x) (by simpa using hx) hi]
    congr 1; omega
theorem flatten_take {sz : Nat} {X : List (List AV)} (h : ∀ x ∈ X, x.length = sz) (n : Nat) : X.flatten.take (n * sz) = (X.take n).flatten := by
  rcases Nat.lt_or_ge n X.length with q | q
  · have e : X = X.take n ++ X.drop n := (List.take_append_drop n X).symm
    conv => lhs; rw [e]
    rw [List.flatten_append, List.take_left']
    rw [flatten_len (fun x hx => h x (List.mem_of_mem_take hx)), List.length_take, Nat.min_eq_left (Nat.le_of_lt q)]
  · rw [List.take_of_length_le q, List.take_of_length_le]
    rw [flatten_len h]; exact Nat.mul_le_mul_right _ q
theorem flatten_all {p : AV → Bool} {X : List (List AV)} (h : ∀ x ∈ X, x.all p = true) : X.flatten.all p = true := by
  rw [List.all_eq_true]
  intro y hy
  obtain ⟨x, hx, hy⟩ := List.mem_flatten.1 hy
  exact List.all_eq_true.1 (h x hx) y hy
theorem mod_lt' {t n sz : Nat} (h : t < n * sz) : t / sz < n ∧ t % sz < sz ∧ t / sz * sz + t % sz = t := by
  have hs : 0 < sz := Nat.pos_of_ne_zero fun q => by subst q; omega
  exact ⟨(Nat.div_lt_iff_lt_mul hs).2 h, Nat.mod_lt _ hs, by rw [Nat.mul_comm]; exact Nat.div_add_mod t sz⟩

theorem cellOf_some {x : Option ABlk} {o : Nat} {v : AV} (h : cellOf x o = some v) : (∃ e cs, x = some (.cells e cs) ∧ cs[o]? = some v) ∨ ∃ ob' f, x = some (.ro ob' f) ∧ f o = some v := by
  unfold cellOf at h
  split at h
  · exact .inl ⟨_, _, rfl, h⟩
  · exact .inr ⟨_, _, rfl, h⟩
  · cases h

/-- What a slice holds, as cells. -/
theorem Sl.cells {sz b : Nat} {s : AV} {X : List (List AV)} (h : Sl H sz b s X) (hz : 0 < sz) {m : Nat} (hm : m ≤ X.length) : sliceCells H sz m s = some (X.take m).flatten := by
  obtain ⟨rfl, rfl⟩ | ⟨o, c, ex, rfl, h2, h3⟩ := h.ex
  · obtain rfl : m = 0 := by simpa using hm
    rfl
  · by_cases m0 : m = 0
    · subst m0; rfl
    · have hsT : ∀ x ∈ X.take m, x.length = sz := fun x hx => h2.szs x (List.mem_of_mem_take hx)
      have hfl : (X.take m).flatten.length = m * sz := by rw [flatten_len hsT, List.length_take, Nat.min_eq_left hm]
      have hk : (X.take m).flatten.all AV.known = true := flatten_all fun x hx => h2.known x (List.mem_of_mem_take hx)
      have get : ∀ t, t < m * sz → ∃ v, (X.take m).flatten[t]? = some v ∧ cellOf (H.get b) (o + t) = some v := by
        intro t ht
        obtain ⟨q1, q2, q3⟩ := mod_lt' ht
        have hx : (X.take m)[t / sz]? = some (X[t / sz]'(by omega)) := by rw [List.getElem?_take, if_pos q1]; exact List.getElem?_eq_getElem _
        have hx' : X[t / sz]? = some (X[t / sz]'(by omega)) := List.getElem?_eq_getElem _
        have hsz := h2.szs _ (List.mem_of_getElem? hx')
        have hv : (X[t / sz]'(by omega))[t % sz]? = some ((X[t / sz]'(by omega))[t % sz]'(by omega)) := List.getElem?_eq_getElem _
        refine ⟨_, by rw [← q3, flatten_at hsT hx q2]; exact hv, ?_⟩
        have := h2.cell _ _ hx' _ _ hv
        rwa [Nat.add_assoc, q3] at this
      have hpos : 0 < m * sz := Nat.mul_pos (by omega) hz
      obtain ⟨v0, _, hc0⟩ := get 0 hpos
      obtain ⟨vl, _, hcl⟩ := get (m * sz - 1) (by omega)
      rcases cellOf_some hc0 with ⟨e, cs, hb, _⟩ | ⟨ob', f, hb, _⟩
      · have hlen : o + m * sz ≤ cs.length := by
          rw [hb, cellOf_cells] at hcl
          have := (List.getElem?_eq_some_iff.1 hcl).1; omega
        refine sliceCells_cells hb hm hlen (seg_eq hfl fun t ht => ?_) hk
        obtain ⟨v, e1, e2⟩ := get t ht
        rw [hb, cellOf_cells] at e2
        rw [e1, e2]
      · have h1 : Nat.ble m X.length = true := by simpa using hm
        have h0 : Nat.beq m 0 = false := Bool.eq_false_iff.2 fun q => m0 (Nat.eq_of_beq_eq_true q)
        have hr : roList f o (Nat.mul m sz) = some (X.take m).flatten := roList_of hfl fun t v hv => by
          have ht : t < m * sz := by have := (List.getElem?_eq_some_iff.1 hv).1; omega
          obtain ⟨v', e1, e2⟩ := get t ht
          rw [hb, cellOf_ro] at e2
          rw [e2, ← e1, hv]
        simp only [sliceCells, h1, br_true, h0, br_false, rowTo, hb, hr, ob_some, allB_eq, hk]
theorem Sl.sz {sz b : Nat} {s : AV} {X : List (List AV)} (h : Sl H sz b s X) : (∀ x ∈ X, x.length = sz) ∧ (∀ x ∈ X, x.all AV.known = true) ∧ (∀ x ∈ X, x.all AV.one = true) := by
  obtain ⟨rfl, rfl⟩ | ⟨o, c, ex, rfl, h2, h3⟩ := h.ex
  · exact ⟨by simp, by simp, by simp⟩
  · exact ⟨h2.szs, h2.known, h2.one⟩

/-- A slice over a block of its own. -/
structure Own (H : AH) (e : TypeId) (sz B : Nat) (s : AV) (X : List (List AV)) : Prop where
  ex : (s = .slice none 0 0 true ∧ X = []) ∨ ∃ o c ex cs, s = .slice (some (B, o)) X.length c ex ∧ H.get B = some (.cells e cs) ∧ X.length ≤ c ∧ o + c * sz ≤ cs.length ∧ (ex = false → cs.length = o + c * sz) ∧ (cs.drop o).take (X.length * sz) = X.flatten ∧ B < H.next
  szs : ∀ x ∈ X, x.length = sz
  known : ∀ x ∈ X, x.all AV.known = true
  one : ∀ x ∈ X, x.all AV.one = true
theorem Own.mono {e : TypeId} {sz B : Nat} {s : AV} {X : List (List AV)} (h : Own H e sz B s X) {m : List Nat} (q : Ext m H H') (hb : B ∉ m) : Own H' e sz B s X := by
  refine ⟨?_, h.szs, h.known, h.one⟩
  obtain ⟨rfl, rfl⟩ | ⟨o, c, ex, cs, rfl, h1, h2, h3, h4, h5, h6⟩ := h.ex
  · exact .inl ⟨rfl, rfl⟩
  · exact .inr ⟨o, c, ex, cs, rfl, q.get h6 hb h1, h2, h3, h4, h5, Nat.lt_of_lt_of_le h6 q.next⟩
theorem Own.sl {e : TypeId} {sz B : Nat} {s : AV} {X : List (List AV)} (h : Own H e sz B s X) : Sl H sz B s X := by
  obtain ⟨rfl, rfl⟩ | ⟨o, c, ex, cs, rfl, h1, h2, h3, h4, h5, h6⟩ := h.ex
  · exact ⟨.inl ⟨rfl, rfl⟩⟩
  · refine ⟨.inr ⟨o, c, ex, rfl, ⟨h6, h.szs, h.known, h.one, fun j x hx i v hv => ?_⟩, h2⟩⟩
    have hj : j < X.length := (List.getElem?_eq_some_iff.1 hx).1
    have hi : i < sz := by have := (List.getElem?_eq_some_iff.1 hv).1; have := h.szs x (List.mem_of_getElem? hx); omega
    have hb : j * sz + i < X.length * sz := by
      have : (j + 1) * sz ≤ X.length * sz := Nat.mul_le_mul_right _ hj
      rw [Nat.succ_mul] at this; omega
    rw [h1, cellOf_cells, ← hv, ← flatten_at h.szs hx hi, ← h5, List.getElem?_take, if_pos hb, List.getElem?_drop, Nat.add_assoc]
theorem Own.low {e : TypeId} {sz B : Nat} {s : AV} {X : List (List AV)} (h : Own H e sz B s X) : B < H.next ∨ X = [] := by
  obtain ⟨rfl, rfl⟩ | ⟨o, c, ex, cs, rfl, h1, h2, h3, h4, h5, h6⟩ := h.ex
  · exact .inr rfl
  · exact .inl h6
theorem Sl.mono' {sz b : Nat} {s : AV} {X : List (List AV)} (h : Sl H sz b s X) {m : List Nat} (q : Ext m H H') (hb : b ∈ m → X = []) : Sl H' sz b s X := by
  by_cases c : b ∈ m
  · obtain ⟨rfl, rfl⟩ | ⟨o, cc, ex, rfl, h2, h3⟩ := h.ex
    · exact ⟨.inl ⟨rfl, rfl⟩⟩
    · have hx := hb c
      subst hx
      exact ⟨.inr ⟨o, cc, ex, rfl, ⟨Nat.lt_of_lt_of_le h2.lt q.next, by simp, by simp, by simp, fun j x hx => by simp at hx⟩, h3⟩⟩
  · exact h.mono q c
theorem Own.facts {e : TypeId} {sz B : Nat} {s : AV} {X : List (List AV)} (h : Own H e sz B s X) : s.one = true ∧ clearA s = some s ∧ s.parts = [s] ∧ s.known = true := by
  obtain ⟨rfl, rfl⟩ | ⟨o, c, ex, cs, rfl, _⟩ := h.ex <;> exact ⟨rfl, rfl, rfl, rfl⟩
theorem Own.nil (H : AH) (e : TypeId) (sz B : Nat) : Own H e sz B (.slice none 0 0 true) [] := ⟨.inl ⟨rfl, rfl⟩, by simp, by simp, by simp⟩

/-- append. -/
theorem Own.append {e : TypeId} {sz B b by_ : Nat} {s y : AV} {X Y : List (List AV)} (h : Own H e sz B s X) (hy : Sl H sz b y Y) (hz : 0 < sz) (hb : (2 * (X.length + Y.length) + 1024) * by_ ≤ 281474976710656) :
    ∃ s' H' B', w_append e sz by_ H s y none = some (.val s' H') ∧ Ext [B] H H' ∧ (B' = B ∨ H.next ≤ B') ∧ Own H' e sz B' s' (X ++ Y) := by
  have hlA := hy.lenA
  have hV := hy.cells hz (Nat.le_refl _)
  rw [List.take_of_length_le (Nat.le_refl _)] at hV
  obtain ⟨y1, y2, y3⟩ := hy.sz
  have hXY : (∀ x ∈ X ++ Y, x.length = sz) ∧ (∀ x ∈ X ++ Y, x.all AV.known = true) ∧ (∀ x ∈ X ++ Y, x.all AV.one = true) := by
    refine ⟨fun x hx => ?_, fun x hx => ?_, fun x hx => ?_⟩ <;> rcases List.mem_append.1 hx with q | q
    · exact h.szs x q
    · exact y1 x q
    · exact h.known x q
    · exact y2 x q
    · exact h.one x q
    · exact y3 x q
  by_cases hY : Y = []
  · subst hY
    have hV0 : sliceCells H sz 0 y = some [] := hV
    refine ⟨s, H, B, ?_, Ext.refl _ _, .inl rfl, by rw [List.append_nil]; exact h⟩
    have hn : newCells sz y H = some (0, []) := by simp only [newCells, hlA, ob_some]; rw [show ([] : List (List AV)).length = 0 from rfl, hV0, ob_some]
    obtain ⟨rfl, rfl⟩ | ⟨o, c, ex, cs, rfl, h1, h2, h3, h4, h5, h6⟩ := h.ex
    · simp only [w_append, hn, ob2_some, appendTo]; rfl
    · have c1 : Nat.ble (Nat.add X.length 0) c = true := by simpa using h2
      simp only [w_append, hn, ob2_some, appendTo, c1, br_true, writeA, ob_some]; rfl
  · have hYl : 0 < Y.length := List.length_pos_iff.2 hY
    have hfl := flatten_len y1
    have hne : Y.flatten ≠ [] := fun q => by rw [q] at hfl; have := Nat.mul_pos hYl hz; simp at hfl; omega
    obtain ⟨rfl, rfl⟩ | ⟨o, c, ex, cs, rfl, h1, h2, h3, h4, h5, h6⟩ := h.ex
    · refine ⟨_, _, H.next, w_append_grow (L := []) hlA hV (by omega) (by simpa using hb) (sliceCells_nil sz 0 true 0), (Ext.refl _ _).new _, .inr (Nat.le_refl _), ⟨.inr ⟨0, 0 + Y.length, false, Y.flatten, ?_, get_new_same _ _, ?_, ?_, ?_, ?_, ?_⟩, hXY.1, hXY.2.1, hXY.2.2⟩⟩
      · rw [List.nil_append, Nat.zero_add]
      · simp
      · simp [hfl]
      · simp [hfl]
      · rw [List.nil_append, List.drop_zero, ← hfl, List.take_length]
      · rw [next_new]; omega
    · have hlX := flatten_len h.szs
      have hL : sliceCells H sz X.length (.slice (some (B, o)) X.length c ex) = some X.flatten :=
        sliceCells_cells h1 (Nat.le_refl _) (by have := Nat.mul_le_mul_right sz h2; omega) h5 (flatten_all h.known)
      have hfa : (X ++ Y).flatten = X.flatten ++ Y.flatten := List.flatten_append
      have hn : newCells sz y H = some (Y.length, Y.flatten) := by simp only [newCells, hlA, ob_some, hV]
      by_cases hr : X.length + Y.length ≤ c
      · have c1 : Nat.ble (Nat.add X.length Y.length) c = true := by simpa using hr
        have hm := Nat.mul_le_mul_right sz hr
        rw [Nat.add_mul] at hm
        have hw := writeA_eq (o := o + X.length * sz) h1 hne (by rw [hfl]; omega)
        refine ⟨.slice (some (B, o)) (X.length + Y.length) c ex, H.put B (some (.cells e (cs.take (o + X.length * sz) ++ (Y.flatten ++ cs.drop (o + X.length * sz + Y.flatten.length))))), B, ?_, (Ext.refl _ _).put (.inr (by simp)) _, .inl rfl, ⟨.inr ⟨o, c, ex, _, by rw [List.length_append], get_put_same _ _, by rw [List.length_append]; exact hr, ?_, fun q => ?_, ?_, ?_⟩, hXY.1, hXY.2.1, hXY.2.2⟩⟩
        · simp only [w_append, hn, ob2_some, appendTo, c1, br_true]
          show ob (writeA H B (o + X.length * sz) Y.flatten) _ = _
          rw [hw, ob_some]; rfl
        · rw [splice_length _ _ _ (by rw [hfl]; omega)]; exact h3
        · rw [splice_length _ _ _ (by rw [hfl]; omega)]; exact h4 q
        · refine seg_eq (by rw [hfa, List.length_append, hlX, hfl, List.length_append, Nat.add_mul]) fun t ht => ?_
          rw [List.length_append, Nat.add_mul] at ht
          rw [splice_get _ _ _ _ (by rw [hfl]; omega), hfa]
          by_cases q : t < X.length * sz
          · rw [if_pos (by omega), List.getElem?_append_left (by rw [hlX]; exact q), ← h5, List.getElem?_take, if_pos q, List.getElem?_drop]
          · rw [if_neg (by omega), if_pos (by rw [hfl]; omega), List.getElem?_append_right (by rw [hlX]; omega), hlX]
            congr 1; omega
        · rw [AH.next_put]; exact h6
      · have c1 : Nat.ble (Nat.add X.length Y.length) c = false := Bool.eq_false_iff.2 fun q => hr (Nat.le_of_ble_eq_true q)
        have c2 : Nat.ble (Nat.mul (Nat.add (Nat.mul 2 (Nat.add X.length Y.length)) 1024) by_) 281474976710656 = true := by simpa using hb
        have fin : ∀ G : AH, G.next = H.next → Own (G.new (.cells e (X.flatten ++ Y.flatten))) e sz H.next (.slice (some (H.next, 0)) (X.length + Y.length) (X.length + Y.length) false) (X ++ Y) := by
          intro G hG
          have hll : (X.flatten ++ Y.flatten).length = (X.length + Y.length) * sz := by rw [List.length_append, hlX, hfl, Nat.add_mul]
          refine ⟨.inr ⟨0, _, _, _, by rw [List.length_append], by rw [← hG]; exact get_new_same _ _, by rw [List.length_append]; exact Nat.le_refl _, by rw [hll]; omega, fun _ => by rw [hll]; omega, ?_, by rw [next_new]; omega⟩, hXY.1, hXY.2.1, hXY.2.2⟩
          rw [List.drop_zero, hfa, List.take_of_length_le (by rw [hll, List.length_append]; exact Nat.le_refl _)]
        cases ex with
        | true =>
          refine ⟨_, _, H.next, w_append_grow hlA hV (by omega) hb hL, (Ext.refl _ _).new _, .inr (Nat.le_refl _), fin H rfl⟩
        | false =>
          have c3 : Nat.ble X.length c = true := by simpa using h2
          have c4 : lenN cs (Nat.add o (Nat.mul c sz)) = true := (lenN_iff _ _).2 (h4 rfl)
          have c5 : Nat.beq e e = true := Nat.beq_refl e
          refine ⟨.slice (some (H.next, 0)) (X.length + Y.length) (X.length + Y.length) false, (H.put B none).new (.cells e (X.flatten ++ Y.flatten)), H.next, ?_, ((Ext.refl _ _).put (.inr (by simp)) _).new _, .inr (Nat.le_refl _), fin (H.put B none) rfl⟩
          simp only [w_append, hn, ob2_some, appendTo, c1, br_false, c2, br_true, hL, ob_some, c3, killTo, cellsTo, h1, c4, c5, AH.putTo_eq, openNew, newTo_none_eq, joinL_eq]
          rfl

/-! Writing. -/
theorem flatten_set {sz : Nat} {X : List (List AV)} (h : ∀ x ∈ X, x.length = sz) {j : Nat} (hj : j < X.length) {x : List AV} (hx : x.length = sz) (t : Nat) :
    (X.set j x).flatten[t]? = if t < j * sz then X.flatten[t]? else if t < j * sz + sz then x[t - j * sz]? else X.flatten[t]? := by
  have e : X = X.take j ++ X[j] :: X.drop (j + 1) := by rw [← List.drop_eq_getElem_cons hj, List.take_append_drop]
  have e2 : X.set j x = X.take j ++ x :: X.drop (j + 1) := List.set_eq_take_append_cons_drop.trans (if_pos hj)
  have hA : (X.take j).flatten.length = j * sz := by rw [flatten_len fun y hy => h y (List.mem_of_mem_take hy), List.length_take, Nat.min_eq_left (Nat.le_of_lt hj)]
  have hB := h X[j] (List.getElem_mem hj)
  have f1 : X.flatten = (X.take j).flatten ++ (X[j] ++ (X.drop (j + 1)).flatten) := by
    conv => lhs; rw [e]
    rw [List.flatten_append, List.flatten_cons]
  have f2 : (X.set j x).flatten = (X.take j).flatten ++ (x ++ (X.drop (j + 1)).flatten) := by rw [e2, List.flatten_append, List.flatten_cons]
  rw [f1, f2]
  by_cases c1 : t < j * sz
  · rw [if_pos c1, List.getElem?_append_left (by omega), List.getElem?_append_left (by omega)]
  · have g1 := List.getElem?_append_right (l₁ := (X.take j).flatten) (l₂ := x ++ (X.drop (j + 1)).flatten) (i := t) (by omega)
    have g2 := List.getElem?_append_right (l₁ := (X.take j).flatten) (l₂ := X[j] ++ (X.drop (j + 1)).flatten) (i := t) (by omega)
    rw [if_neg c1, g1, g2, hA]
    by_cases c2 : t < j * sz + sz
    · rw [if_pos c2, List.getElem?_append_left (by omega)]
    · have g3 := List.getElem?_append_right (l₁ := x) (l₂ := (X.drop (j + 1)).flatten) (i := t - j * sz) (by omega)
      have g4 := List.getElem?_append_right (l₁ := X[j]) (l₂ := (X.drop (j + 1)).flatten) (i := t - j * sz) (by omega)
      rw [if_neg c2, g3, g4, hx, hB]
theorem mem_set' {α : Type} {X : List α} {j : Nat} {x y : α} (h : y ∈ X.set j x) : y ∈ X ∨ y = x := List.mem_or_eq_of_mem_set h

/-- An element's place: where it is; what is read; what is written. -/
theorem Own.at {e : TypeId} {sz B : Nat} {s : AV} {X : List (List AV)} (h : Own H e sz B s X) {j : Nat} (hj : j < X.length) (k : IntKind) : ∃ p, (∀ G : AH, w_indexAddr (.sl sz) G s (.int k j) = some (.val (.ptr (some (B, p))) G)) ∧ B < H.next ∧
    (∀ i v, X[j][i]? = some v → cellOf (H.get B) (p + i) = some v) ∧
    (∀ x : List AV, x.length = sz → x.all AV.known = true → x.all AV.one = true → ∀ (n i : Nat) (v : AV), v.parts.length = n → v.parts ≠ [] → i + n ≤ sz → x = X[j].take i ++ (v.parts ++ X[j].drop (i + n)) →
      ∃ H', stN n H B (H.get B) (p + i) v = some (.skip H') ∧ Ext [B] H H' ∧ H'.next = H.next ∧ (∀ c, c ≠ B → H'.get c = H.get c) ∧ Own H' e sz B s (X.set j x)) := by
  obtain ⟨rfl, rfl⟩ | ⟨o, c, ex, cs, rfl, h1, h2, h3, h4, h5, h6⟩ := h.ex
  · cases hj
  · have hb : j * sz + sz ≤ X.length * sz := by
      have : (j + 1) * sz ≤ X.length * sz := Nat.mul_le_mul_right _ hj
      rw [Nat.succ_mul] at this; omega
    have hc := Nat.mul_le_mul_right sz h2
    have hxj := h.szs X[j] (List.getElem_mem hj)
    refine ⟨o + j * sz, fun G => w_idx_sl hj, h6, fun i v hv => ?_, fun x hx hk h1' n i v hn hne hin hxe => ?_⟩
    · have := h.sl.ex
      obtain ⟨q, _⟩ | ⟨o', c', ex', q, hsa, _⟩ := this
      · cases q
      · simp only [AV.slice.injEq, Option.some.injEq, Prod.mk.injEq, true_and] at q
        obtain ⟨q1, _, _⟩ := q
        subst q1
        exact hsa.cell j _ (List.getElem?_eq_getElem hj) i v hv
    · have hpo : v.parts.all AV.one = true := by
        rw [List.all_eq_true]
        intro y hy
        exact List.all_eq_true.1 h1' y (by rw [hxe]; simp [hy])
      refine ⟨H.put B (some (.cells e (cs.take (o + j * sz + i) ++ (v.parts ++ cs.drop (o + j * sz + i + n))))), ?_, (Ext.refl _ _).put (.inr (by simp)) _, AH.next_put _ _ _, fun c hc => by rw [AH.get_put, if_neg hc], ⟨.inr ⟨o, c, ex, _, by rw [List.length_set], get_put_same _ _, by rw [List.length_set]; exact h2, ?_, fun q => ?_, ?_, by rw [AH.next_put]; exact h6⟩, fun y hy => ?_, fun y hy => ?_, fun y hy => ?_⟩⟩
      · rw [h1]; exact stN_cells _ _ _ _ _ ⟨hn, hpo, hne⟩ (by omega)
      · subst hn; rw [splice_length _ _ _ (by omega)]; exact h3
      · subst hn; rw [splice_length _ _ _ (by omega)]; exact h4 q
      · refine seg_eq (by rw [flatten_len (sz := sz), List.length_set]; intro y hy; rcases mem_set' hy with q | q; exact h.szs y q; rw [q]; exact hx) fun t ht => ?_
        rw [List.length_set] at ht
        have hX : X.flatten[t]? = cs[o + t]? := by rw [← h5, List.getElem?_take, if_pos ht, List.getElem?_drop]
        subst hn
        rw [splice_get _ _ _ _ (by omega), flatten_set h.szs hj hx]
        have gx : ∀ r, r < sz → X[j][r]? = X.flatten[j * sz + r]? := fun r hr => (flatten_at h.szs (List.getElem?_eq_getElem hj) hr).symm
        by_cases c1 : t < j * sz
        · rw [if_pos (by omega), if_pos c1, hX]
        · rw [if_neg c1]
          by_cases c2 : t < j * sz + sz
          · rw [if_pos c2, hxe]
            by_cases c3 : t < j * sz + i
            · rw [if_pos (by omega), List.getElem?_append_left (by rw [List.length_take]; omega), List.getElem?_take, if_pos (by omega), gx _ (by omega), show j * sz + (t - j * sz) = t by omega, hX]
            · rw [if_neg (by omega), List.getElem?_append_right (by rw [List.length_take]; omega), List.length_take, Nat.min_eq_left (by omega)]
              by_cases c4 : t < j * sz + i + v.parts.length
              · rw [if_pos (by omega), List.getElem?_append_left (by omega)]; congr 1; omega
              · rw [if_neg (by omega), List.getElem?_append_right (by omega), List.getElem?_drop, gx _ (by omega), ← hX]; congr 1; omega
          · rw [if_neg c2, if_neg (by omega), if_neg (by omega), hX]
      · rcases mem_set' hy with q | q
        · exact h.szs y q
        · rw [q]; exact hx
      · rcases mem_set' hy with q | q
        · exact h.known y q
        · rw [q]; exact hk
      · rcases mem_set' hy with q | q
        · exact h.one y q
        · rw [q]; exact h1'

/-- make. -/
theorem reps_flatten {sz : Nat} {z : List AV} (hz : z.length = sz) : ∀ n, reps n z = (List.replicate n z).flatten := by
  intro n
  unfold reps
  split
  · rename_i x
    induction n with
    | zero => rfl
    | succ n ih => rw [List.replicate_succ, List.flatten_cons, ← ih]; rfl
  · induction n with
    | zero => rfl
    | succ n ih =>
      rw [List.replicate_succ, List.flatten_cons, ← ih]
      exact joinL_eq _ _
theorem own_make {e : TypeId} {sz by_ : Nat} {z : List AV} (he : elT P e = some (sz, z)) (hb : byOf P e = some by_) (hs : 0 < sz) (hz : z.length = sz) (hk : z.all AV.known = true) (h1 : z.all AV.one = true) {n : Nat} (hn : by_ * n ≤ 281474976710656) (hn2 : n ≤ 4611686018427387904) (k k' : IntKind) :
    ∃ H', w_makeSlice P e H (.int k n) (.int k' n) none = some (.val (.slice (some (H.next, 0)) n n true) H') ∧ Ext [] H H' ∧ H'.next = H.next + 1 ∧ Own H' e sz H.next (.slice (some (H.next, 0)) n n true) (List.replicate n z) := by
  have hl : ∀ x ∈ List.replicate n z, x.length = sz := fun x hx => by rw [(List.mem_replicate.1 hx).2]; exact hz
  have hfl := flatten_len hl
  rw [List.length_replicate] at hfl
  have c1 : Nat.blt 0 sz = true := by rw [Nat.blt_eq]; exact hs
  have c2 : Nat.ble n n = true := by simp
  have c3 : Nat.ble (Nat.mul by_ n) 281474976710656 = true := by simpa using hn
  have c4 : Nat.ble n 4611686018427387904 = true := by simpa using hn2
  refine ⟨H.new (.cells e (List.replicate n z).flatten), ?_, (Ext.refl _ _).new _, rfl, ⟨.inr ⟨0, n, true, _, by rw [List.length_replicate], get_new_same _ _, by rw [List.length_replicate]; exact Nat.le_refl _, by omega, fun q => (by cases q), ?_, by rw [next_new]; omega⟩, hl, fun x hx => ?_, fun x hx => ?_⟩⟩
  · simp only [w_makeSlice, oMakeSlice, he, hb, val_mk, c1, c2, c3, c4, br_true, natZ_cast, ob_some, newSlice, newTo_none_eq, reps_flatten hz]
  · rw [List.length_replicate, List.drop_zero, List.take_of_length_le (by omega)]
  · rw [(List.mem_replicate.1 hx).2]; exact hk
  · rw [(List.mem_replicate.1 hx).2]; exact h1
end
end Go.Ab
