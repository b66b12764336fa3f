/- What memory does, said of the abstract heap: reading, writing, new blocks. -/
import Derived.Test.YtoafnnphjbdedaaGreatDoorAbD
import Derived.Laws.CopyRow
namespace Go.Ab
variable {P : Program} {ρ : Env} {H : AH} {w : World} {at_ : Option Nat} {W : Tmp → Prop}

theorem thawed_frozen {c : Array Value} {e : TypeId} {fr : Nat × Nat} {g o : Nat} (hg : w.heap[g]? = some (.cells c e fr)) (h : Thawed c.size fr) (ho : o < c.size) : w.frozen? ⟨g, o, none⟩ = false := by
  obtain ⟨lo, hi⟩ := fr
  simp only [World.frozen?, hg, Bool.and_eq_false_iff, decide_eq_false_iff_not]
  rcases h with h | h <;> simp only at h <;> omega

/-- A row of cells, and the list that stands for a stretch of it. -/
structure Row (ρ : Env) (w : World) (g o : Nat) (cs : List AV) : Prop where
  row : ∃ c e fr, w.heap[g]? = some (.cells c e fr) ∧ ∀ i x, cs[i]? = some x → ∃ v, c[o + i]? = some v ∧ RelC ρ x v

theorem Row.cell {g o : Nat} {cs : List AV} (h : Row ρ w g o cs) {i : Nat} {x : AV} (hx : cs[i]? = some x) : ∃ v, w.cell? ⟨g, o + i, none⟩ = some v ∧ RelC ρ x v := by
  obtain ⟨c, e, fr, h1, h4⟩ := h
  obtain ⟨v, h5, h6⟩ := h4 i x hx
  exact ⟨v, by simp [World.cell?, h1, h5], h6⟩

theorem add_plain (g o n : Nat) : (⟨g, o, none⟩ : Addr).add n = ⟨g, o + n, none⟩ := by
  unfold Addr.add; split <;> simp_all

theorem Row.load {g o : Nat} {cs : List AV} (h : Row ρ w g o cs) : ∃ vs : List Value, (loadCells ⟨g, o, none⟩ cs.length).run P w = .ok vs.toArray w ∧ ((∀ x ∈ cs, x.known = true) → RelL ρ cs vs) := by
  have key : ∀ j, ∃ v, j < cs.length → w.cell? ⟨g, o + j, none⟩ = some v ∧ RelC ρ (cs.getD j undefA) v := by
    intro j
    by_cases hj : j < cs.length
    · obtain ⟨v, h1, h2⟩ := h.cell (List.getElem?_eq_getElem hj)
      exact ⟨v, fun _ => ⟨h1, by simpa [List.getD_eq_getElem?_getD, List.getElem?_eq_getElem hj] using h2⟩⟩
    · exact ⟨undef, fun hj' => absurd hj' hj⟩
  obtain ⟨f, hf⟩ := Classical.axiomOfChoice key
  refine ⟨(List.range cs.length).map f, run_loadCells w ⟨g, o, none⟩ cs.length f (fun j hj => by rw [add_plain]; exact (hf j hj).1), ?_⟩
  refine fun hkn => .of_get (by simp) fun i x y hx hy => ?_
  have hi : i < cs.length := (List.getElem?_eq_some_iff.1 hx).1
  simp [List.getElem?_range hi] at hy
  have := (hf i hi).2
  rw [hy] at this
  refine RelC.rel ?_ (hkn x (List.mem_of_getElem? hx))
  simpa [List.getD_eq_getElem?_getD, hx] using this

theorem Row.sub {g o : Nat} {cs : List AV} (h : Row ρ w g o cs) (k n : Nat) (hk : k + n ≤ cs.length) : Row ρ w g (o + k) ((cs.drop k).take n) := by
  obtain ⟨c, e, fr, h1, h4⟩ := h
  refine ⟨c, e, fr, h1, fun i x hx => ?_⟩
  rw [List.getElem?_take, List.getElem?_drop] at hx
  split at hx
  · obtain ⟨v, a, b⟩ := h4 _ _ hx
    exact ⟨v, by rw [← a]; congr 1; omega, b⟩
  · cases hx

theorem Lies.toRow {b : Nat} {e : TypeId} {cs : List AV} (h : Lies P ρ w b (.cells e cs)) {l : Loc} (hl : ρ b = some l) : Row ρ w l.blk l.off cs := by
  obtain ⟨l', c, fr, h1, h2, h3, h4, _, h6, _⟩ := h
  rw [hl] at h1; cases h1
  exact ⟨c, e, fr, h2, h6⟩

theorem Lies.toRo {b : Nat} {ob : Obj} {f : Nat → Option AV} (h : Lies P ρ w b (.ro ob f)) {l : Loc} (hl : ρ b = some l) {o n : Nat} {cs : List AV} (hc : roList f o n = some cs) : Row ρ w l.blk (l.off + o) cs ∧ ∀ x ∈ cs, x.one = true := by
  obtain ⟨l', c, e, fr, h1, h2, rfl, h4⟩ := h
  rw [hl] at h1; cases h1
  obtain ⟨h5, h6⟩ := roList_some hc
  refine ⟨⟨c, e, fr, h2, fun i x hx => ?_⟩, fun x hx => ?_⟩
  · obtain ⟨_, v, a, r⟩ := h4 _ x (h6 i x hx)
    exact ⟨v, by rw [← a]; congr 1; omega, .inl r⟩
  · obtain ⟨i, hi⟩ := List.getElem?_of_mem hx
    exact (h4 _ x (h6 i x hi)).1

theorem run_storeCells_thawed (g o : Nat) (t : TypeId) (fr : Nat × Nat) : ∀ (vs : List Value) (i : Nat) (cur : Array Value) (w : World), w.heap[g]? = some (.cells cur t fr) → Thawed cur.size fr → o + i + vs.length ≤ cur.size → (∀ v ∈ vs, v.oneCell' = true) →
    (storeCells ⟨g, o, none⟩ vs i).run P w = .ok () (w.setRow g (cur.toList.take (o + i) ++ vs ++ cur.toList.drop (o + i + vs.length)).toArray)
  | [], i, cur, w, hg, _, _, _ => by
    simp only [storeCells, List.append_nil, List.length_nil, Nat.add_zero, List.take_append_drop, Array.toArray_toList]
    rw [setRow_self w g cur t fr hg]
    rfl
  | v :: rest, i, cur, w, hg, hfz, hl, h1 => by
    have hi : o + i < cur.size := by simp at hl; omega
    have hcell : w.cell? ⟨g, o + i, none⟩ = some cur[o + i] := by simp [World.cell?, hg, hi]
    have hfro : w.frozen? ⟨g, o + i, none⟩ = false := thawed_frozen hg hfz hi
    have hst : (store ((⟨g, o, none⟩ : Addr).add i) v).run P w = .ok () (w.setRow g (cur.setIfInBounds (o + i) v)) := by
      rw [add_plain, run_store P w _ v _ (h1 v (by simp)), hcell]
      simp [hfro, setCell_eq_setRow w g (o + i) cur t fr v hg]
    have ih := run_storeCells_thawed g o t fr rest (i + 1) (cur.setIfInBounds (o + i) v) (w.setRow g (cur.setIfInBounds (o + i) v)) (setRow_heap w g cur _ t _ hg) (by simpa using hfz) (by simp at hl ⊢; omega) (fun x hx => h1 x (by simp [hx]))
    simp only [storeCells, Sem.run_bind, hst, Result.andThen_ok, ih, setRow_setRow]
    congr 3
    have e := list_seg_step cur.toList (o + i) v rest (by simp at hl ⊢; omega)
    simpa [Array.toList_setIfInBounds, Nat.add_assoc] using e

theorem setRow_other (g : Nat) (cs : Array Value) (k : Nat) (h : k ≠ g) : (w.setRow g cs).heap[k]? = w.heap[k]? := by
  simp only [World.setRow, Array.getElem?_modify]
  rw [if_neg (by omega)]
theorem setRow_size (g : Nat) (cs : Array Value) : (w.setRow g cs).heap.size = w.heap.size := by simp [World.setRow]

/-- One block's content turns; its place stays. -/
theorem Real.change (h : Real P ρ H w) {b : Nat} {x : ABlk} {l : Loc} {w' : World} (hb : H.get b ≠ none) (hl : ρ b = some l) (hs : w'.heap.size = w.heap.size)
    (ho : ∀ k, k ≠ l.blk → w'.heap[k]? = w.heap[k]?) (hx : Lies P ρ w' b x) (e1 : w'.os = w.os) (e2 : w'.tape = w.tape) (e3 : w'.output = w.output) : Good at_ P ρ H w ρ (H.put b (some x)) w' := by
  refine ⟨⟨fun c y hc => ?_, fun c c' m m' hc hc' hm hm' e => ?_, fun c hc => h.fresh c (by simpa using hc), h.glob'⟩, ?_⟩
  · rw [AH.get_put] at hc
    by_cases e : c = b
    · subst e; simp at hc; subst hc; exact hx
    · simp only [e, if_false] at hc
      refine (h.lies c y hc).mono (.refl ρ) fun m hm => ho _ fun e' => e ?_
      exact h.inj c b m l (by rw [hc]; simp) hb hm hl e'
  · refine h.inj c c' m m' ?_ ?_ hm hm' e
    · rw [AH.get_put] at hc; by_cases e : c = b
      · subst e; exact hb
      · simpa [e] using hc
    · rw [AH.get_put] at hc'; by_cases e : c' = b
      · subst e; exact hb
      · simpa [e] using hc'
  · refine ⟨.refl ρ, Nat.le_refl _, by omega, fun c m hc hm _ => ⟨c, m, ?_, hm, rfl⟩, fun B hB hn => ho B fun e => hn b l hb hl e.symm, e1, e2, e3, fun _ _ h _ => h⟩
    rw [AH.get_put] at hc; by_cases e : c = b
    · subst e; exact hb
    · simpa [e] using hc

/-- Cells written into a block. -/
theorem Real.write (h : Real P ρ H w) {b o : Nat} {vs : List AV} {H' : AH} (hw : writeA H b o vs = some H') {l : Loc} (hl : ρ b = some l) {ys : List Value} (hr : RelL ρ vs ys) (h1 : ∀ x ∈ vs, x.one = true) :
    ∃ w', (storeCells ⟨l.blk, l.off + o, none⟩ ys).run P w = .ok () w' ∧ Good at_ P ρ H w ρ H' w' := by
  cases vs with
  | nil =>
    cases hr
    simp only [writeA, Option.some.injEq] at hw
    subst hw
    exact ⟨w, rfl, h.good⟩
  | cons v vs =>
    simp only [writeA, cellsTo_eq_some, ob_eq_some, AH.putTo_eq, over_eq] at hw
    obtain ⟨e, cs, hb, cs', hcs, rfl'⟩ := hw
    obtain ⟨rfl⟩ : H.put b (some (.cells e cs')) = H' := by simpa using rfl'
    split at hcs
    · rename_i hle
      simp only [Option.some.injEq] at hcs
      obtain ⟨l', c, fr, a1, a2, a3, a4, a5, a6, a7⟩ := h.lies b _ hb
      rw [hl] at a1; cases a1
      have hlen := hr.length
      have hys : l.off + o + ys.length ≤ c.size := by rw [hlen]; omega
      refine ⟨_, run_storeCells_thawed l.blk (l.off + o) e fr ys 0 c w a2 a3 (by omega) (fun y hy => ?_), ?_⟩
      · obtain ⟨i, hi⟩ := List.getElem?_of_mem hy
        have hi2 : i < (v :: vs).length := by rw [← hlen]; exact (List.getElem?_eq_some_iff.1 hi).1
        obtain ⟨y', h2, h3⟩ := hr.get (List.getElem?_eq_getElem hi2)
        rw [hi] at h2; cases h2
        rw [h3.one]; exact h1 _ (List.getElem_mem hi2)
      · refine h.change (by rw [hb]; simp) hl (setRow_size _ _) (fun k hk => setRow_other _ _ _ hk) ?_ rfl rfl rfl
        refine ⟨l, _, fr, hl, setRow_heap w l.blk c _ e fr a2, ?_, ?_, ?_, ?_, ?_, a7.2⟩
        · simp only [List.size_toArray, List.length_append, List.length_take, List.length_drop, Array.length_toList]
          have : min (l.off + o + 0) c.size + ys.length + (c.size - (l.off + o + 0 + ys.length)) = c.size := by omega
          rw [this]; exact a3
        · simp only [List.size_toArray, List.length_append, List.length_take, List.length_drop, Array.length_toList]
          have hle' : o + (vs.length + 1) ≤ cs.length := by simpa using hle
          have e1 : cs'.length = cs.length := by subst hcs; simp; omega
          rw [e1]; omega
        · subst hcs
          intro x hx
          simp only [List.mem_append] at hx
          rcases hx with hx | hx | hx
          · exact a5 x (List.mem_of_mem_take hx)
          · exact h1 x hx
          · exact a5 x (List.mem_of_mem_drop hx)
        · subst hcs
          intro i x hx
          simp only [List.getElem?_toArray, Nat.add_zero]
          by_cases hi1 : i < o
          · rw [List.getElem?_append_left (by simp; omega), List.getElem?_take, if_pos hi1] at hx
            obtain ⟨u, b1, b2⟩ := a6 i x hx
            refine ⟨u, ?_, b2⟩
            rw [List.append_assoc, List.getElem?_append_left (by simp; omega), List.getElem?_take, if_pos (by omega)]
            simpa using b1
          · rw [List.getElem?_append_right (by simp; omega)] at hx
            have e2 : (List.take o cs).length = o := by simp; omega
            rw [e2] at hx
            by_cases hi2 : i - o < (v :: vs).length
            · rw [List.getElem?_append_left hi2] at hx
              obtain ⟨u, b1, b2⟩ := hr.get hx
              refine ⟨u, ?_, .inl b2⟩
              rw [List.append_assoc, List.getElem?_append_right (by simp; omega)]
              have e3 : (List.take (l.off + o) c.toList).length = l.off + o := by simp; omega
              rw [e3, List.getElem?_append_left (by omega)]
              rw [← b1]; congr 1; omega
            · rw [List.getElem?_append_right (by omega), List.getElem?_drop] at hx
              have e4 : o + (v :: vs).length + (i - o - (v :: vs).length) = i := by omega
              rw [e4] at hx
              obtain ⟨u, b1, b2⟩ := a6 i x hx
              refine ⟨u, ?_, b2⟩
              rw [List.append_assoc, List.getElem?_append_right (by simp; omega)]
              have e3 : (List.take (l.off + o) c.toList).length = l.off + o := by simp; omega
              rw [e3, List.getElem?_append_right (by omega), List.getElem?_drop]
              rw [← Array.getElem?_toList] at b1
              rw [← b1]; congr 1; omega
        · have hle' : o + (vs.length + 1) ≤ cs.length := by simpa using hle
          have e1 : cs'.length = cs.length := by subst hcs; simp; omega
          intro i v hi1 hi2 hv
          rw [e1] at hi1 hi2
          refine a7.1 i v hi1 hi2 ?_
          simp only [List.getElem?_toArray, Nat.add_zero] at hv
          have e3 : (List.take (l.off + o) c.toList).length = l.off + o := by simp; omega
          rw [List.append_assoc, List.getElem?_append_right (by omega), e3, List.getElem?_append_right (by simp at hlen; omega), List.getElem?_drop] at hv
          rw [← Array.getElem?_toList, ← hv]; congr 1; simp at hlen; omega
    · cases hcs

/-- What a place for a new block must be: the next one, or one that was kept for it. -/
def AtOk (ρ : Env) (H : AH) : Option Nat → Prop
  | none => True
  | some b => b < H.next ∧ ρ b = none

def idOf (H : AH) : Option Nat → Nat
  | none => H.next
  | some b => b
noncomputable def newH (H : AH) (at_ : Option Nat) (x : ABlk) : AH := H.newTo at_ x fun _ H' => H'
theorem newTo_eq {β : Type} (H : AH) (at_ : Option Nat) (x : ABlk) (k : Nat → AH → β) : H.newTo at_ x k = k (idOf H at_) (newH H at_ x) := by
  cases at_ <;> simp [newH, idOf, AH.newTo]
theorem get_newH (H : AH) (at_ : Option Nat) (x : ABlk) (c : Nat) : (newH H at_ x).get c = if c = idOf H at_ then some x else H.get c := by
  cases at_ with
  | none => rw [newH, AH.newTo_none]; exact Tr.get_put _ _ _ _
  | some b => rw [newH, AH.newTo_some]; exact AH.get_put _ _ _ _
theorem next_newH (H : AH) (at_ : Option Nat) (x : ABlk) : H.next ≤ (newH H at_ x).next ∧ ∀ b, (newH H at_ x).next ≤ b → H.next ≤ b ∧ (AtOk ρ H at_ → b ≠ idOf H at_) := by
  cases at_ with
  | none => rw [newH, AH.newTo_none]; exact ⟨Nat.le_succ _, fun b hb => ⟨by simp at hb; omega, fun _ => by simp [idOf] at *; omega⟩⟩
  | some c => rw [newH, AH.newTo_some]; exact ⟨Nat.le_refl _, fun b hb => ⟨hb, fun h => by simp only [AtOk, idOf] at *; simp at hb; omega⟩⟩

/-- The environment with one place more. -/
def Env.with (ρ : Env) (b : Nat) (l : Loc) : Env := fun c => if c = b then some l else ρ c
theorem le_with {b : Nat} {l : Loc} (h : ρ b = none) : Le ρ (ρ.with b l) := fun c m hc => by
  unfold Env.with
  by_cases e : c = b
  · subst e; rw [h] at hc; cases hc
  · simpa [e] using hc
theorem with_same (b : Nat) (l : Loc) : ρ.with b l b = some l := by simp [Env.with]
theorem id_fresh (h : Real P ρ H w) {at_ : Option Nat} (ha : AtOk ρ H at_) : ρ (idOf H at_) = none := by
  cases at_ with
  | none => exact h.fresh _ (Nat.le_refl _)
  | some b => exact ha.2
theorem id_dead (h : Real P ρ H w) {b : Nat} (hb : ρ b = none) : H.get b = none := by
  cases hx : H.get b with
  | none => rfl
  | some x => obtain ⟨l, hl⟩ := (h.lies b x hx).loc; rw [hb] at hl; cases hl

/-- A new block. -/
theorem Real.new (h : Real P ρ H w) {at_ : Option Nat} (ha : AtOk ρ H at_) {x : ABlk} {w' : World} {l : Loc} (hsz : w.heap.size ≤ w'.heap.size) (hlt : l.blk < w'.heap.size)
    (hold : ∀ k, k < w.heap.size → w'.heap[k]? = w.heap[k]?) (hge : w.heap.size ≤ l.blk) (hx : Lies P (ρ.with (idOf H at_) l) w' (idOf H at_) x) (e1 : w'.os = w.os) (e2 : w'.tape = w.tape) (e3 : w'.output = w.output) :
    Good at_ P ρ H w (ρ.with (idOf H at_) l) (newH H at_ x) w' := by
  have hf := id_fresh h ha
  have hle := le_with (l := l) hf
  have hgl : ¬ idOf H at_ < P.globals.size + 1 := fun hg => by have := h.glob' _ hg; rw [hf] at this; cases this
  have old : ∀ c m, c ≠ idOf H at_ → ρ.with (idOf H at_) l c = some m → ρ c = some m := fun c m hc hm => by simpa [Env.with, hc] using hm
  refine ⟨⟨fun c y hc => ?_, fun c c' m m' hc hc' hm hm' e => ?_, fun c hc => ?_, fun g hg => ?_⟩, ?_⟩
  · rw [get_newH] at hc
    by_cases e : c = idOf H at_
    · subst e; simp at hc; subst hc; exact hx
    · simp only [e, if_false] at hc
      exact (h.lies c y hc).mono hle fun m hm => hold _ (h.inb (by rw [hc]; simp) hm)
  · rw [get_newH] at hc hc'
    by_cases e1 : c = idOf H at_
    · by_cases e2 : c' = idOf H at_
      · rw [e1, e2]
      · subst e1
        rw [with_same] at hm; cases hm
        have := h.inb (by simpa [e2] using hc') (old c' m' e2 hm')
        omega
    · by_cases e2 : c' = idOf H at_
      · subst e2
        rw [with_same] at hm'; cases hm'
        have := h.inb (by simpa [e1] using hc) (old c m e1 hm)
        omega
      · simp only [e1, e2, if_false] at hc hc'
        exact h.inj c c' m m' hc hc' (old _ _ e1 hm) (old _ _ e2 hm') e
  · obtain ⟨h1, h2⟩ := (next_newH (ρ := ρ) H at_ x).2 c hc
    have h3 := h2 ha
    simp [Env.with, h3, h.fresh c h1]
  · have : g ≠ idOf H at_ := fun e => hgl (e ▸ hg)
    simp [Env.with, this, h.glob' g hg]
  · refine ⟨hle, (next_newH (ρ := ρ) H at_ x).1, hsz, fun c m hc hm hlt' => ?_, fun B hB _ => hold B hB, e1, e2, e3, fun b h1 h2 h3 => by
      have hn : b ≠ idOf H at_ := by
        cases at_ with
        | none => simp only [idOf]; omega
        | some c => simp only [idOf]; intro e; exact h3 (by rw [e])
      simp [Env.with, hn, h2]⟩
    by_cases e : c = idOf H at_
    · subst e; rw [with_same] at hm; cases hm; omega
    · rw [get_newH] at hc
      simp only [e, if_false] at hc
      exact ⟨c, m, hc, old c m e hm, rfl⟩

theorem heap_push_lt (x : Obj) (k : Nat) (h : k < w.heap.size) : ({ w with heap := w.heap.push x } : World).heap[k]? = w.heap[k]? := by
  show (w.heap.push x)[k]? = _
  rw [Array.getElem?_push, if_neg (by omega)]

/-- A new row of cells. -/
theorem Real.newRow (h : Real P ρ H w) {at_ : Option Nat} (ha : AtOk ρ H at_) {e : TypeId} {cs : List AV} {c : List Value} (hr : RelL ρ cs (c.take cs.length)) (h1 : ∀ x ∈ cs, x.one = true) {sp : Nat} (hsp : cs.length + sp * P.cellsOf e ≤ c.length)
    (hone : ∀ i v, cs.length ≤ i → i < cs.length + sp * P.cellsOf e → c[i]? = some v → v.oneCell' = true := by intro _ _ _ _ _; omega) :
    Good at_ P ρ H w (ρ.with (idOf H at_) ⟨w.heap.size, 0, sp⟩) (newH H at_ (.cells e cs)) { w with heap := w.heap.push (.cells c.toArray e) } := by
  have hle := le_with (l := ⟨w.heap.size, 0, sp⟩) (id_fresh h ha)
  refine h.new ha (by simp) (by simp) (fun k hk => heap_push_lt _ k hk) (Nat.le_refl _) ?_ rfl rfl rfl
  refine ⟨_, c.toArray, (0, 0), with_same _ _, ?_, .inl rfl, by simpa using hsp, h1, fun i x hx => ?_, fun i v a b d => hone i v a b (by simpa using d), fun _ => rfl⟩
  · show (w.heap.push _)[w.heap.size]? = _
    simp
  · obtain ⟨y, b1, b2⟩ := (hr.mono hle).get hx
    refine ⟨y, ?_, .inl b2⟩
    have hi : i < cs.length := (List.getElem?_eq_some_iff.1 hx).1
    rw [List.getElem?_take, if_pos hi] at b1
    simpa using b1

/-- A block that nobody asks for any more. -/
theorem Real.kill (h : Real P ρ H w) (b : Nat) : Real P ρ (H.put b none) w := by
  refine ⟨fun c y hc => ?_, fun c c' m m' hc hc' hm hm' e => ?_, fun c hc => h.fresh c (by simpa using hc), h.glob'⟩
  · rw [AH.get_put] at hc
    split at hc
    · cases hc
    · exact h.lies c y hc
  · refine h.inj c c' m m' ?_ ?_ hm hm' e
    · rw [AH.get_put] at hc; split at hc
      · exact absurd rfl hc
      · exact hc
    · rw [AH.get_put] at hc'; split at hc'
      · exact absurd rfl hc'
      · exact hc'
theorem Good.kill (h : Real P ρ H w) (b : Nat) : Good at_ P ρ H w ρ (H.put b none) w := by
  refine ⟨h.kill b, .refl ρ, Nat.le_refl _, Nat.le_refl _, fun c m hc hm _ => ⟨c, m, ?_, hm, rfl⟩, fun _ _ _ => rfl, rfl, rfl, rfl, fun _ _ h _ => h⟩
  rw [AH.get_put] at hc; split at hc
  · exact absurd rfl hc
  · exact hc

end Go.Ab
