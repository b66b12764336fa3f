/- Rows of cells in a heap; the words on them. -/
import Derived.Test.YtoafnnphjbdedaaGreatDoorAbEd
namespace Go.Ab
variable {P : Program} {C : CW} {H H' : AH}

/-- The cell at a place of a block. -/
def cellOf (x : Option ABlk) (o : Nat) : Option AV := match x with
  | some (.cells _ cs) => cs[o]?
  | some (.ro _ f) => f o
  | _ => none
theorem cellOf_cells (e : TypeId) (cs : List AV) (o : Nat) : cellOf (some (.cells e cs)) o = cs[o]? := rfl
theorem cellOf_ro (x : Obj) (f : Nat → Option AV) (o : Nat) : cellOf (some (.ro x f)) o = f o := rfl
theorem clearA_one {v : AV} (hk : v.known = true) (h1 : v.one = true) : clearA v = some v := by cases v <;> first | rfl | (cases hk; done) | (cases h1; done)
theorem w_load_of {b o : Nat} {v : AV} (h : cellOf (H.get b) o = some v) (hk : v.known = true) (h1 : v.one = true) : w_load none H (.ptr (some (b, o))) = some (.val v H) := by
  have hn : ∀ l, v ≠ .agg l := fun l e => by rw [e] at h1; cases h1
  unfold cellOf at h
  split at h
  · rename_i he; exact w_load_cell he h hk hn
  · rename_i he; exact w_load_ro he h hk hn
  · cases h
theorem w_load_ofs {b o n : Nat} {l : List AV} (hne : l ≠ []) (hl : l.length = n) (h : ∀ i v, l[i]? = some v → cellOf (H.get b) (o + i) = some v) (hk : l.all AV.known = true) : w_load (some n) H (.ptr (some (b, o))) = some (.val (.agg l) H) := by
  obtain ⟨v0, hv0⟩ : ∃ v, l[0]? = some v := by cases l with | nil => exact absurd rfl hne | cons x l => exact ⟨x, rfl⟩
  have h0 := h 0 v0 hv0
  have hlast : ∃ v, l[l.length - 1]? = some v := ⟨_, List.getElem?_eq_getElem (by have := List.length_pos_iff.2 hne; omega)⟩
  obtain ⟨vl, hvl⟩ := hlast
  have hL := h _ vl hvl
  cases hb : H.get b with
  | none => rw [hb] at h0; cases h0
  | some x =>
    cases x with
    | cells e cs =>
      simp only [hb, cellOf_cells] at h hL
      have hlen : o + n ≤ cs.length := by
        have := (List.getElem?_eq_some_iff.1 hL).1
        have := List.length_pos_iff.2 hne
        omega
      refine w_load_agg hb hlen (seg_eq hl fun j hj => ?_) hk
      have hj' : l[j]? = some l[j] := List.getElem?_eq_getElem (by omega)
      rw [h j _ hj', hj']
    | ro x f => exact w_load_ro_agg hb hl (fun i v hv => by have := h i v hv; rw [hb] at this; exact this) hk
    | _ => rw [hb] at h0; cases h0

/-- Elements of sz cells each, one behind the other, from o on. -/
structure SlAt (H : AH) (sz b o : Nat) (X : List (List AV)) : Prop where
  lt : b < H.next
  szs : ∀ x ∈ X, x.length = sz
  known : ∀ x ∈ X, x.all AV.known = true
  one : ∀ x ∈ X, x.all AV.one = true
  cell : ∀ j x, X[j]? = some x → ∀ i v, x[i]? = some v → cellOf (H.get b) (o + j * sz + i) = some v
theorem SlAt.mono {sz b o : Nat} {X : List (List AV)} (h : SlAt H sz b o X) {m : List Nat} (e : Ext m H H') (hb : b ∉ m) : SlAt H' sz b o X :=
  ⟨Nat.lt_of_lt_of_le h.lt e.next, h.szs, h.known, h.one, fun j x hx i v hv => by rw [e.same b h.lt hb]; exact h.cell j x hx i v hv⟩
/-- A slice of such. -/
structure Sl (H : AH) (sz b : Nat) (s : AV) (X : List (List AV)) : Prop where
  ex : (s = .slice none 0 0 true ∧ X = []) ∨ ∃ o c ex, s = .slice (some (b, o)) X.length c ex ∧ SlAt H sz b o X ∧ X.length ≤ c
theorem Sl.mono {sz b : Nat} {s : AV} {X : List (List AV)} (h : Sl H sz b s X) {m : List Nat} (e : Ext m H H') (hb : b ∉ m) : Sl H' sz b s X := by
  obtain h | ⟨o, c, ex, h1, h2, h3⟩ := h.ex
  · exact ⟨.inl h⟩
  · exact ⟨.inr ⟨o, c, ex, h1, h2.mono e hb, h3⟩⟩
theorem Sl.lenA {sz b : Nat} {s : AV} {X : List (List AV)} (h : Sl H sz b s X) : lenA s = some X.length := by
  obtain ⟨rfl, rfl⟩ | ⟨o, c, ex, rfl, _, _⟩ := h.ex <;> rfl
theorem Sl.len {sz b : Nat} {s : AV} {X : List (List AV)} (h : Sl H sz b s X) {t e : TypeId} (hu : P.underlying t = some (.slice e)) (G : AH) : w_len P t G s = some (.val (.int .i64 X.length) G) := by
  obtain ⟨rfl, rfl⟩ | ⟨o, c, ex, rfl, _, _⟩ := h.ex
  · exact w_len_sl hu _ _ _ _
  · exact w_len_sl hu _ _ _ _
/-- An element's place; what it holds. -/
theorem Sl.at {sz b : Nat} {s : AV} {X : List (List AV)} (h : Sl H sz b s X) {j : Nat} (hj : j < X.length) (k : IntKind) : ∃ o, (∀ G : AH, w_indexAddr (.sl sz) G s (.int k j) = some (.val (.ptr (some (b, o))) G)) ∧ b < H.next ∧ ∀ i v, X[j][i]? = some v → cellOf (H.get b) (o + i) = some v := by
  obtain ⟨rfl, rfl⟩ | ⟨o, c, ex, rfl, h2, _⟩ := h.ex
  · cases hj
  · exact ⟨o + j * sz, fun G => w_idx_sl hj, h2.lt, fun i v hv => h2.cell j _ (List.getElem?_eq_getElem hj) i v hv⟩
theorem Sl.elt {sz b : Nat} {s : AV} {X : List (List AV)} (h : Sl H sz b s X) {j : Nat} (hj : j < X.length) : X[j].length = sz ∧ X[j].all AV.known = true ∧ X[j].all AV.one = true := by
  obtain ⟨rfl, rfl⟩ | ⟨o, c, ex, rfl, h2, _⟩ := h.ex
  · cases hj
  · have := List.getElem_mem hj
    exact ⟨h2.szs _ this, h2.known _ this, h2.one _ this⟩

/-! A load, of what is there. -/
noncomputable section
def ldV (x : Option ABlk) (o : Nat) : Option AV := ob (cellOf x o) clearA
/-- n cells, as one. -/
def ldN (n : Nat) (x : Option ABlk) (o : Nat) : Option AV := match x with
  | some (.cells _ cs) => ob (ob (cut cs o n) fun l => some (.agg l)) clearA
  | some (.ro _ f) => ob (ob (roList f o n) fun l => ob (cut l 0 n) fun l => some (.agg l)) clearA
  | _ => none
theorem w_load_n (n b o : Nat) : w_load (some n) H (.ptr (some (b, o))) = vO H (ldN n (H.get b) o) := by
  cases hb : H.get b with
  | none => simp only [w_load, oLoad, partF, val_mk, onPtr, rowTo, hb, ldN, ob_none]
  | some x =>
    cases x with
    | cells e cs => simp only [w_load, oLoad, partF, val_mk, onPtr, rowTo, hb, ldN]
    | ro x f => simp only [w_load, oLoad, partF, val_mk, onPtr, rowTo, hb, ldN, cellsQ]
    | _ => simp only [w_load, oLoad, partF, val_mk, onPtr, rowTo, hb, ldN, ob_none]
theorem ldN_of {x : Option ABlk} {o n : Nat} {l : List AV} (hne : l ≠ []) (hl : l.length = n) (h : ∀ i v, l[i]? = some v → cellOf x (o + i) = some v) (hk : l.all AV.known = true) : ldN n x o = some (.agg l) := by
  have h1 : w_load (some n) (⟨Tr.put .leaf 0 x, 1⟩ : AH) (.ptr (some (0, o))) = some (.val (.agg l) ⟨Tr.put .leaf 0 x, 1⟩) := by
    have hg : (⟨Tr.put .leaf 0 x, 1⟩ : AH).get 0 = x := by show Tr.get (Tr.put .leaf 0 x) 0 = x; rw [Tr.get_put, if_pos rfl]
    exact w_load_ofs hne hl (fun i v hv => by rw [hg]; exact h i v hv) hk
  have hg : (⟨Tr.put .leaf 0 x, 1⟩ : AH).get 0 = x := by show Tr.get (Tr.put .leaf 0 x) 0 = x; rw [Tr.get_put, if_pos rfl]
  rw [w_load_n, hg] at h1
  cases hx : ldN n x o with
  | none => rw [hx] at h1; cases h1
  | some v => rw [hx] at h1; simp only [vO, ob_some, Option.some.injEq, Out.val.injEq] at h1; rw [h1.1]
theorem ldV_of {x : Option ABlk} {o : Nat} {v : AV} (h : cellOf x o = some v) (hk : v.known = true) (h1 : v.one = true) : ldV x o = some v := by
  unfold ldV; rw [h, ob_some, clearA_one hk h1]
theorem w_load_c (b o : Nat) : w_load none H (.ptr (some (b, o))) = vO H (ldV (H.get b) o) := by
  cases hb : H.get b with
  | none => simp only [w_load, oLoad, partF, val_mk, onPtr, rowTo, hb, ldV, cellOf, ob_none]
  | some x =>
    cases x with
    | cells e cs => simp only [w_load, oLoad, partF, val_mk, onPtr, rowTo, hb, ldV, cellOf, nthO_eq]
    | ro x f =>
      simp only [w_load, oLoad, partF, val_mk, onPtr, rowTo, hb, ldV, cellOf, cellsQ]
      have : roList f o 1 = ob (f o) fun x => some [x] := by
        show ob (f o) (fun x => ob (some []) fun l => some (x :: l)) = _
        rfl
      rw [this]
      cases f o <;> simp [nthO_eq]
    | _ => simp only [w_load, oLoad, partF, val_mk, onPtr, rowTo, hb, ldV, cellOf, ob_none]
theorem ldV_cells (e : TypeId) (cs : List AV) (o : Nat) : ldV (some (.cells e cs)) o = ob cs[o]? clearA := rfl
theorem ldV_ro (x : Obj) (f : Nat → Option AV) (o : Nat) : ldV (some (.ro x f)) o = ob (f o) clearA := rfl
theorem clearA_int (k : IntKind) (n : Int) : clearA (.int k n) = some (.int k n) := rfl
theorem clearA_bool (b : Bool) : clearA (.bool b) = some (.bool b) := rfl
theorem clearA_ptr (p : Option (Nat × Nat)) : clearA (.ptr p) = some (.ptr p) := rfl
theorem clearA_slice (p : Option (Nat × Nat)) (n c : Nat) (x : Bool) : clearA (.slice p n c x) = some (.slice p n c x) := rfl
theorem get_new_eq (x : ABlk) {b : Nat} (h : b = H.next) : (H.new x).get b = some x := by rw [get_new, if_pos h]
theorem get_new_ne (x : ABlk) {b : Nat} (h : b ≠ H.next) : (H.new x).get b = H.get b := by rw [get_new, if_neg h]
theorem get_put_same (b : Nat) (x : Option ABlk) : (H.put b x).get b = x := by rw [AH.get_put, if_pos rfl]
theorem get_put_ne (x : Option ABlk) {b c : Nat} (h : c ≠ b) : (H.put b x).get c = H.get c := by rw [AH.get_put, if_neg h]
theorem parts_agg (l : List AV) : (AV.agg l).parts = l := rfl
theorem parts_int (k : IntKind) (n : Int) : (AV.int k n).parts = [.int k n] := rfl
theorem parts_slice (p : Option (Nat × Nat)) (n c : Nat) (x : Bool) : (AV.slice p n c x).parts = [.slice p n c x] := rfl
theorem one_int (k : IntKind) (n : Int) : (AV.int k n).one = true := rfl
theorem one_bool (b : Bool) : (AV.bool b).one = true := rfl
theorem one_ptr (p : Option (Nat × Nat)) : (AV.ptr p).one = true := rfl
theorem one_slice (p : Option (Nat × Nat)) (n c : Nat) (x : Bool) : (AV.slice p n c x).one = true := rfl
theorem w_box_c (e : TypeId) (v : AV) : w_box e H v none = br (v.parts.all AV.one) (some (.val (.ptr (some (H.next, 0))) (H.new (.cells e v.parts)))) none := by
  rw [br_eq]
  split
  · rename_i h; exact w_box_one h
  · rename_i h
    simp only [w_box, oBox, val_mk, allB_eq, h, br_false]
theorem nat_add (a b : Nat) : Nat.add a b = a + b := rfl
theorem beq_tt (b : Bool) : (b == true) = b := by cases b <;> rfl
theorem beq_ff (b : Bool) : (b == false) = !b := by cases b <;> rfl
theorem condP_dec (p : Prop) [Decidable p] (x y : Prop) : condP (.bool (decide p)) x y ↔ (p → x) ∧ (¬ p → y) := by
  by_cases h : p <;> simp [h, condP]
theorem condP_not (p : Prop) [Decidable p] (x y : Prop) : condP (.bool (!decide p)) x y ↔ (¬ p → x) ∧ (p → y) := by
  by_cases h : p <;> simp [h, condP]


/-- A store, over what is there. -/
def stN (n : Nat) (H : AH) (b : Nat) (x : Option ABlk) (o : Nat) (v : AV) : Option Out := match x with
  | some (.cells e cs) => if v.parts.length = n ∧ v.parts.all AV.one = true ∧ v.parts ≠ [] then if o + n ≤ cs.length then some (.skip (H.put b (some (.cells e (cs.take o ++ (v.parts ++ cs.drop (o + n))))))) else none else w_store n H (.ptr (some (b, o))) v
  | _ => w_store n H (.ptr (some (b, o))) v
theorem w_store_c (n b o : Nat) (v : AV) : w_store n H (.ptr (some (b, o))) v = stN n H b (H.get b) o v := by
  unfold stN
  split
  · rename_i e cs hb
    split
    · rename_i hc
      split
      · rename_i ho; exact w_store_cells hb hc.1 hc.2.2 ho hc.2.1
      · rename_i ho
        have hl : lenN v.parts n = true := (lenN_iff _ _).2 hc.1
        have : ¬ (o + v.parts.length ≤ cs.length) := by rw [hc.1]; exact ho
        cases hv : v.parts with
        | nil => exact absurd hv hc.2.2
        | cons y ys =>
          rw [hv] at hl this
          have h1 := hc.2.1
          rw [hv] at h1
          simp only [w_store, oStore, val_mk, onPtr, hv, hl, allB_eq, h1, br_true, sO, writeA, cellsTo, hb, over_eq, if_neg this, ob_none]
    · rfl
  · rfl
theorem stN_cells {n : Nat} (b : Nat) (e : TypeId) (cs : List AV) (o : Nat) (v : AV) (h : v.parts.length = n ∧ v.parts.all AV.one = true ∧ v.parts ≠ []) (ho : o + n ≤ cs.length) :
    stN n H b (some (.cells e cs)) o v = some (.skip (H.put b (some (.cells e (cs.take o ++ (v.parts ++ cs.drop (o + n))))))) := by
  show (if _ then _ else _) = _
  rw [if_pos h, if_pos ho]
/-- One cell of a block of a few. -/
theorem stN_one (b : Nat) (e : TypeId) (cs : List AV) (o : Nat) (v : AV) (h1 : v.one = true) (ho : o < cs.length) : stN 1 H b (some (.cells e cs)) o v = some (.skip (H.put b (some (.cells e (cs.set o v))))) := by
  have hp : v.parts = [v] := by cases v <;> first | rfl | (cases h1; done)
  rw [stN_cells b e cs o v (by rw [hp]; simp [h1]) ho, hp]
  congr 5
  refine List.ext_getElem? fun j => ?_
  rw [show cs.drop (o + 1) = cs.drop (o + [v].length) from rfl, splice_get _ _ _ _ (by simp only [List.length_singleton]; omega), List.getElem?_set]
  by_cases c1 : j < o
  · rw [if_pos c1, if_neg (by omega)]
  · rw [if_neg c1]
    by_cases c2 : o = j
    · subst c2; simp [ho]
    · rw [if_neg (by simp; omega), if_neg c2]
theorem stN_fst (b : Nat) (e : TypeId) (x y v : AV) (h1 : v.one = true) : stN 1 H b (some (.cells e [x, y])) 0 v = some (.skip (H.put b (some (.cells e [v, y])))) := stN_one b e _ 0 v h1 (Nat.zero_lt_succ _)
theorem stN_snd (b : Nat) (e : TypeId) (x y v : AV) (h1 : v.one = true) : stN 1 H b (some (.cells e [x, y])) 1 v = some (.skip (H.put b (some (.cells e [x, v])))) := stN_one b e _ 1 v h1 (Nat.lt_succ_self _)
theorem stN_two (b : Nat) (e : TypeId) (x y u v : AV) (h1 : u.one = true) (h2 : v.one = true) : stN 2 H b (some (.cells e [x, y])) 0 (.agg [u, v]) = some (.skip (H.put b (some (.cells e [u, v])))) :=
  stN_cells b e _ 0 _ ⟨rfl, by simp [AV.parts, h1, h2], by simp [AV.parts]⟩ (Nat.le_refl _)
theorem ldN_pair (e : TypeId) (k k' : IntKind) (m n : Int) : ldN 2 (some (.cells e [.int k m, .int k' n])) 0 = some (.agg [.int k m, .int k' n]) := rfl
end
end Go.Ab
