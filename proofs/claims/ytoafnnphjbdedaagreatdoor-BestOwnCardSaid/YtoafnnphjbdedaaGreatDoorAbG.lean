/- Each operation, evaluated, is what the operation does (second part: what is made of parts, addresses, slices). -/
import Derived.Test.YtoafnnphjbdedaaGreatDoorAbF
namespace Go.Ab
variable {P : Program} {ρ : Env} {H : AH} {w : World} {at_ : Option Nat} {W : Tmp → Prop}

/-! Parts. -/
theorem foldl_set (vs : List Value) (off : Nat) : ∀ (k : Nat) (cells : Array Value),
    ((vs.zipIdx k).foldl (fun cs (x : Value × Nat) => cs.setIfInBounds (off + x.2) x.1) cells).size = cells.size ∧
    ∀ i, ((vs.zipIdx k).foldl (fun cs (x : Value × Nat) => cs.setIfInBounds (off + x.2) x.1) cells)[i]? = if off + k ≤ i ∧ i < off + k + vs.length ∧ i < cells.size then vs[i - off - k]? else cells[i]? := by
  induction vs with
  | nil =>
    intro k cells
    refine ⟨rfl, fun i => ?_⟩
    have : ¬ (off + k ≤ i ∧ i < off + k + ([] : List Value).length ∧ i < cells.size) := by simp; omega
    simp only [List.zipIdx_nil, List.foldl_nil]
    rw [if_neg this]
  | cons v vs ih =>
    intro k cells
    obtain ⟨h1, h2⟩ := ih (k + 1) (cells.setIfInBounds (off + k) v)
    simp only [List.zipIdx_cons, List.foldl_cons]
    refine ⟨by rw [h1]; simp, fun i => ?_⟩
    rw [h2 i]
    simp only [Array.size_setIfInBounds, List.length_cons]
    by_cases hi : off + (k + 1) ≤ i ∧ i < off + (k + 1) + vs.length ∧ i < cells.size
    · have hi' : off + k ≤ i ∧ i < off + k + (vs.length + 1) ∧ i < cells.size := by omega
      rw [if_pos hi, if_pos hi']
      have : i - off - k = (i - off - (k + 1)) + 1 := by omega
      rw [this, List.getElem?_cons_succ]
    · rw [if_neg hi, Array.getElem?_setIfInBounds]
      by_cases e : off + k = i
      · subst e
        by_cases hs : off + k < cells.size
        · have hi' : off + k ≤ off + k ∧ off + k < off + k + (vs.length + 1) ∧ off + k < cells.size := by omega
          rw [if_pos rfl, if_pos hs, if_pos hi']
          simp
        · have hi' : ¬ (off + k ≤ off + k ∧ off + k < off + k + (vs.length + 1) ∧ off + k < cells.size) := by omega
          rw [if_pos rfl, if_neg hs, if_neg hi']
          simp; omega
      · have hi' : ¬ (off + k ≤ i ∧ i < off + k + (vs.length + 1) ∧ i < cells.size) := by omega
        rw [if_neg e, if_neg hi']

theorem fold_rel {cs cs' : List AV} {c : Array Value} (hr : RelL ρ cs c.toList) {off : Nat} {v : AV} {y : Value} (hv : Rel ρ v y) (ho : over cs off v.parts = some cs') :
    RelL ρ cs' (y.cells.zipIdx.foldl (fun cs (x : Value × Nat) => cs.setIfInBounds (off + x.2) x.1) c).toList := by
  rw [over_eq] at ho
  split at ho
  · rename_i hle
    simp only [Option.some.injEq] at ho
    subst ho
    have hp := hv.parts
    have hlen := hp.length
    have hlc := hr.length
    have e : y.cells.zipIdx.foldl (fun cs (x : Value × Nat) => cs.setIfInBounds (off + x.2) x.1) c = (y.cells.toList.zipIdx 0).foldl (fun cs (x : Value × Nat) => cs.setIfInBounds (off + x.2) x.1) c := by
      rw [← Array.foldl_toList, Array.toList_zipIdx]
    rw [e]
    obtain ⟨h1, h2⟩ := foldl_set y.cells.toList off 0 c
    refine .of_get (by rw [Array.length_toList, h1]; simp at hlc ⊢; omega) fun i x z hx hz => ?_
    rw [Array.getElem?_toList, h2] at hz
    simp only [Nat.add_zero, Nat.sub_zero] at hz
    have hlc' : c.size = cs.length := by simpa using hlc
    by_cases hi1 : i < off
    · rw [List.getElem?_append_left (by simp; omega), List.getElem?_take, if_pos hi1] at hx
      obtain ⟨z', a, b⟩ := hr.get hx
      rw [if_neg (by omega)] at hz
      rw [Array.getElem?_toList, hz] at a; cases a; exact b
    · rw [List.getElem?_append_right (by simp; omega)] at hx
      have e2 : (List.take off cs).length = off := by simp; omega
      rw [e2] at hx
      by_cases hi2 : i - off < v.parts.length
      · rw [List.getElem?_append_left hi2] at hx
        obtain ⟨z', a, b⟩ := hp.get hx
        rw [if_pos (by omega)] at hz
        rw [hz] at a; cases a; exact b
      · rw [List.getElem?_append_right (by omega), List.getElem?_drop] at hx
        have e4 : off + v.parts.length + (i - off - v.parts.length) = i := by omega
        rw [e4] at hx
        obtain ⟨z', a, b⟩ := hr.get hx
        rw [if_neg (by omega)] at hz
        rw [Array.getElem?_toList, hz] at a; cases a; exact b
  · cases ho

theorem fill_rel {place : Nat → Option (Nat × Nat)} : ∀ {parts : List (Nat × AV)} {ys : List (Nat × Value)} {cs r : List AV} {c : Array Value}, RelL ρ cs c.toList →
    parts.length = ys.length → (∀ (i : Nat) (x : Nat × AV) (y : Nat × Value), parts[i]? = some x → ys[i]? = some y → x.1 = y.1 ∧ Rel ρ x.2 y.2) → fillA place parts cs = some r →
    ∃ c', Instr.fill place c ys = some c' ∧ RelL ρ r c'.toList
  | [], ys, cs, r, c, hr, hl, _, hf => by
    cases ys with
    | nil => simp only [fillA, Option.some.injEq] at hf; subst hf; exact ⟨c, rfl, hr⟩
    | cons _ _ => simp at hl
  | (i, v) :: parts, ys, cs, r, c, hr, hl, hp, hf => by
    cases ys with
    | nil => simp at hl
    | cons y ys =>
      obtain ⟨j, y⟩ := y
      obtain ⟨e, hv⟩ := hp 0 (i, v) (j, y) rfl rfl
      simp only at e hv
      subst e
      simp only [fillA, ob2_eq_some, br_some_none, lenN_iff, ob_eq_some] at hf
      obtain ⟨off, size, hpl, hsz, cs', ho, hf⟩ := hf
      have hr' := fold_rel hr hv ho
      obtain ⟨c', h1, h2⟩ := fill_rel hr' (by simpa using hl) (fun k a b ha hb => hp (k + 1) a b (by simpa using ha) (by simpa using hb)) hf
      refine ⟨c', ?_, h2⟩
      have hlen := hv.parts.length
      have hle : off + v.parts.length ≤ cs.length := by
        rw [over_eq] at ho
        split at ho
        · assumption
        · cases ho
      have hlc := hr.length
      have a1 : y.cells.size = size := by simp at hlen; omega
      have a2 : ¬ off + y.cells.size > c.size := by simp at hlen hlc; omega
      simp only [Instr.fill, hpl, a1]
      rw [if_neg (by rw [a1] at a2; simp [a2])]
      exact h1

theorem parts_run {tm : TM0} {a : Act} (h : At P ρ H w tm a W) {ps : List (Nat × Operand)} (hx : ∀ x ∈ ps, OkW P W x.2) (i : Nat) (x : Nat × AV) (y : Nat × Value)
    (h1 : (ps.map fun x => (x.1, opd tm x.2))[i]? = some x) (h2 : (ps.map fun x => (x.1, a.eval x.2))[i]? = some y) : x.1 = y.1 ∧ Rel ρ x.2 y.2 := by
  simp only [List.getElem?_map, Option.map_eq_some_iff] at h1 h2
  obtain ⟨p, hp, rfl⟩ := h1
  obtain ⟨q, hq, rfl⟩ := h2
  rw [hp] at hq; cases hq
  exact ⟨rfl, h.opd (hx _ (List.mem_of_getElem? hp))⟩

theorem allM_field {f : Field → Option (Nat × Nat)} {fs : List Field} {l : List (Nat × Nat)} (h : allM f fs = some l) (s : Field → Sem (Nat × Nat)) (hs : ∀ x y, f x = some y → (s x).run P w = .ok y w) :
    (fs.mapM s).run P w = .ok l w := by
  induction fs generalizing l with
  | nil => cases h; rfl
  | cons x fs ih =>
    have e : allM f (x :: fs) = ob (f x) fun y => ob (allM f fs) fun ys => some (y :: ys) := rfl
    rw [e] at h
    simp only [ob_eq_some, Option.some.injEq] at h
    obtain ⟨y, h1, ys, h2, rfl⟩ := h
    simp [List.mapM_cons, hs _ _ h1, ih h2]

section ops
variable {tm : TM0} {a : Act} {out : Out} {dst : Option Tmp} {type : TypeId} {pos : String} {after : Array Edge} {guard : Option (Nat × Bool)}

theorem s_build (h : At P ρ H w tm a W) {t : TypeId} {ps : Array (Nat × Operand)} (hx : ∀ x ∈ ps.toList, OkW P W x.2) (he : (aopF P (.build t ps)).val tm H at_ = some out) :
    OpRes at_ P ρ H w out ((execOp a.eval ⟨dst, .build t ps, type, pos, after, guard⟩).run P w) := by
  simp only [aopF, bx_eq] at he
  cases hz : zeroA P t with
  | none => simp [hz, oBuild, dead] at he
  | some z =>
    cases hp : placesA P t with
    | none => simp [hz, hp, oBuild, dead] at he
    | some pl =>
      simp only [hz, hp, oBuild, val_mk, partsB_val, vO_eq_some, ob_eq_some, Option.some.injEq] at he
      obtain ⟨v, ⟨cs, hf, rfl⟩, rfl⟩ := he
      obtain ⟨zv, hzv, hzr⟩ := run_zero (ρ := ρ) (w := w) hz
      have hzp := hzr.parts
      obtain ⟨c', h1, h2⟩ := fill_rel (c := zv.cells) (ys := ps.toList.map fun x => (x.1, a.eval x.2)) hzp (by simp) (parts_run h hx) hf
      unfold placesA at hp
      split at hp
      · rename_i fs hu
        simp only [ob_eq_some, Option.some.injEq] at hp
        obtain ⟨l, hl, rfl⟩ := hp
        have hm := allM_field (P := P) (w := w) hl (fun f => do pure (f.offset, ← sizeOf f.type)) (fun x y hxy => by
          simp only [ob_eq_some, Option.some.injEq] at hxy
          obtain ⟨n, hn, rfl⟩ := hxy
          simp [run_size hn])
        have e : (nthO l) = (l.toArray[·]?) := by funext i; rw [nthO_eq]; simp
        rw [e] at h1
        refine .pure h.real (v' := .agg c') ?_ ⟨c'.toList, by simp, h2⟩
        have hm' : (fs.mapM fun (f : Field) => do pure (f.offset, ← sizeOf f.type)).run P w = .ok l.toArray w := by
          rw [Array.mapM_eq_mapM_toList, Sem.run_map, hm]; rfl
        simp only [execOp, Instr.build, Sem.run_bind, hzv, Result.andThen_ok, run_und hu, Sem.run_pure, Array.toList_map] at hm' ⊢
        rw [hm']
        simp only [Result.andThen_ok, h1]
        rfl
      · rename_i k e hu
        simp only [ob_eq_some, Option.some.injEq] at hp
        obtain ⟨sz, hsz, rfl⟩ := hp
        refine .pure h.real (v' := .agg c') ?_ ⟨c'.toList, by simp, h2⟩
        simp only [execOp, Instr.build, Sem.run_bind, hzv, Result.andThen_ok, run_und hu, Sem.run_pure, run_size hsz, Array.toList_map]
        simp [h1]
      · cases hp

end ops

/-! Repeated cells. -/
theorem reps_succ (n : Nat) (z : List AV) : reps (n + 1) z = z ++ reps n z := by
  unfold reps
  split
  · rfl
  · show joinL z _ = _; rw [joinL_eq]
theorem reps_zero (z : List AV) : reps 0 z = [] := by
  unfold reps; split <;> rfl
theorem reps_length (n : Nat) (z : List AV) : (reps n z).length = n * z.length := by
  induction n with
  | zero => simp [reps_zero]
  | succ n ih => rw [reps_succ, List.length_append, ih, Nat.succ_mul, Nat.add_comm]
theorem reps_get (z : List AV) : ∀ (n i : Nat), i < n * z.length → (reps n z)[i]? = z[i % z.length]? := by
  intro n
  induction n with
  | zero => intro i hi; simp at hi
  | succ n ih =>
    intro i hi
    rw [reps_succ]
    by_cases h : i < z.length
    · rw [List.getElem?_append_left h, Nat.mod_eq_of_lt h]
    · rw [List.getElem?_append_right (by omega), ih _ (by rw [Nat.succ_mul] at hi; omega)]
      congr 1
      exact (Nat.mod_eq_sub_mod (by omega)).symm
theorem reps_one (n : Nat) (z : List AV) (h : ∀ x ∈ z, x.one = true) : ∀ x ∈ reps n z, x.one = true := by
  induction n with
  | zero => simp [reps_zero]
  | succ n ih =>
    rw [reps_succ]
    intro x hx
    rw [List.mem_append] at hx
    rcases hx with hx | hx
    · exact h x hx
    · exact ih x hx
theorem reps_rel {z : List AV} {zs : Array Value} (h : RelL ρ z zs.toList) (n : Nat) : RelL ρ (reps n z) ((List.range (n * zs.size)).map fun i => zs[i % zs.size]!) := by
  have hlen := h.length
  simp only [Array.length_toList] at hlen
  refine .of_get (by simp [reps_length, hlen]) fun i x y hx hy => ?_
  have hi : i < n * z.length := by
    have := (List.getElem?_eq_some_iff.1 hx).1
    rwa [reps_length] at this
  rw [reps_get z n i hi] at hx
  have hi' : i < n * zs.size := by rw [hlen]; exact hi
  rw [List.getElem?_map, List.getElem?_range hi', Option.map_some, Option.some.injEq] at hy
  obtain ⟨y', h1, h2⟩ := h.get hx
  subst hy
  have : zs[i % zs.size]! = y' := by
    rw [hlen, getElem!_def]
    rw [Array.getElem?_toList] at h1
    rw [h1]
  rwa [this]

theorem elT_some {e : TypeId} {sz : Nat} {z : List AV} (h : elT P e = some (sz, z)) : szOf P e = some sz ∧ (∃ zv, zeroA P e = some zv ∧ z = zv.parts) ∧ z.length = sz ∧ ∀ x ∈ z, x.one = true := by
  simp only [elT, ob_eq_some, br_some_none, lenN_iff, allB_eq, Option.some.injEq, Prod.mk.injEq] at h
  obtain ⟨n, h1, zv, h2, h3, h4, h5, h6⟩ := h
  subst h5 h6
  exact ⟨h1, ⟨zv, h2, rfl⟩, h3, by simpa using h4⟩
theorem slT_some {t e : TypeId} (h : slT P t = some e) : P.underlying t = some (.slice e) := by
  unfold slT at h
  split at h
  · simp only [Option.some.injEq] at h; subst h; assumption
  · cases h
theorem byOf_some {e : TypeId} {n : Nat} (h : byOf P e = some n) : ∃ i, P.info? e = some i ∧ i.bytes = n := by
  simp only [byOf, ob_eq_some, Option.some.injEq] at h
  exact h
theorem szOf_some {e : TypeId} {n : Nat} (h : szOf P e = some n) : ∃ i, P.info? e = some i ∧ i.size = n := by
  simp only [szOf, ob_eq_some, Option.some.injEq] at h
  exact h
theorem cellsOf_eq {e : TypeId} {n : Nat} (h : szOf P e = some n) : P.cellsOf e = n := by
  obtain ⟨i, h1, h2⟩ := szOf_some h
  simp [Program.cellsOf, h1, h2]

theorem s_newSlice (h : Real P ρ H w) {at_ : Option Nat} (ha : AtOk ρ H at_) {e : TypeId} {cs : List AV} {c : List Value} {l n : Nat} {out : Out} (hr : RelL ρ cs c) (h1 : ∀ x ∈ cs, x.one = true) (he : newSlice e cs l n H at_ = some out) {s : Sem Next}
    (hs : s.run P w = .ok (.value (.slice (some ⟨w.heap.size, 0, none⟩) l n)) { w with heap := w.heap.push (.cells c.toArray e) }) : OpRes at_ P ρ H w out (s.run P w) := by
  simp only [newSlice, newTo_eq, Option.some.injEq] at he
  subst he
  have hl := hr.length
  have g := h.newRow (sp := 0) ha (e := e) (cs := cs) (c := c) (by rw [List.take_of_length_le (by omega)]; exact hr) h1 (by omega)
  exact ⟨_, _, _, hs, ⟨_, with_same _ _, by simp⟩, g⟩

section ops
variable {tm : TM0} {a : Act} {out : Out} {dst : Option Tmp} {type : TypeId} {pos : String} {after : Array Edge} {guard : Option (Nat × Bool)}

theorem fill_one {place : Nat → Option (Nat × Nat)} : ∀ {parts : List (Nat × AV)} {cs r : List AV}, (∀ x ∈ cs, x.one = true) → (∀ p ∈ parts, ∀ x ∈ p.2.parts, x.one = true) → fillA place parts cs = some r → ∀ x ∈ r, x.one = true
  | [], cs, r, h, _, hf => by simp only [fillA, Option.some.injEq] at hf; subst hf; exact h
  | (i, v) :: parts, cs, r, h, hp, hf => by
    simp only [fillA, ob2_eq_some, br_some_none, ob_eq_some] at hf
    obtain ⟨off, size, _, _, cs', ho, hf⟩ := hf
    refine fill_one (cs := cs') (fun x hx => ?_) (fun p hq => hp p (by simp [hq])) hf
    rw [over_eq] at ho
    split at ho
    · simp only [Option.some.injEq] at ho
      subst ho
      simp only [List.mem_append] at hx
      rcases hx with hx | hx | hx
      · exact h x (List.mem_of_mem_take hx)
      · exact hp (i, v) (by simp) x hx
      · exact h x (List.mem_of_mem_drop hx)
    · cases ho

theorem s_buildSlice (h : At P ρ H w tm a W) (ha : AtOk ρ H at_) {t : TypeId} {n : Nat} {ps : Array (Nat × Operand)} (hx : ∀ x ∈ ps.toList, OkW P W x.2) (he : (aopF P (.buildSlice t n ps)).val tm H at_ = some out) :
    OpRes at_ P ρ H w out ((execOp a.eval ⟨dst, .buildSlice t n ps, type, pos, after, guard⟩).run P w) := by
  simp only [aopF, bx_eq] at he
  cases ht : slT P t with
  | none => simp [ht, oBuildSlice, dead] at he
  | some e =>
    cases hel : elT P e with
    | none => simp [ht, hel, oBuildSlice, dead] at he
    | some q =>
      obtain ⟨sz, z⟩ := q
      simp only [ht, hel, oBuildSlice, br_eq] at he
      split at he
      · rename_i hb
        rw [Nat.ble_eq] at hb
        simp only [val_mk, partsB_val] at he
        split at he
        · rename_i hone
          rw [ob_eq_some] at he
          obtain ⟨cs, hf, he⟩ := he
          obtain ⟨hsz, ⟨zv, hz, rfl⟩, hlen, h1⟩ := elT_some hel
          obtain ⟨zv', hzv, hzr⟩ := run_zero (ρ := ρ) (w := w) hz
          have hzp := hzr.parts
          have hzl : zv'.cells.size = sz := by have := hzp.length; simp at this; omega
          obtain ⟨c', h2, h3⟩ := fill_rel (c := ((List.range (n * zv'.cells.size)).map fun i => zv'.cells[i % zv'.cells.size]!).toArray) (ys := ps.toList.map fun x => (x.1, a.eval x.2)) (by simpa using reps_rel hzp n) (by simp) (parts_run h hx) hf
          have hone' : ∀ p ∈ ps.toList.map (fun x => (x.1, opd tm x.2)), ∀ x ∈ p.2.parts, x.one = true := by
            rw [allB_eq, List.all_eq_true] at hone
            intro p hp x hx
            have := hone p hp
            rw [allB_eq, List.all_eq_true] at this
            exact this x hx
          refine s_newSlice h.real ha (c := c'.toList) h3 (fill_one (reps_one n _ h1) hone' hf) he ?_
          have hu := slT_some ht
          have hn : ¬ n * sz > 2 ^ 24 := by omega
          simp only [execOp, Instr.buildSlice, Sem.run_bind, run_und hu, Result.andThen_ok, run_size hsz, Array.toList_map]
          rw [if_neg hn]
          simp only [pure_bind]
          by_cases h0 : n * sz = 0
          · rw [if_pos h0]
            have e0 : ((List.range (n * zv'.cells.size)).map fun i => zv'.cells[i % zv'.cells.size]!).toArray = #[] := by rw [hzl, h0]; rfl
            rw [e0] at h2
            have e1 : (Array.map (fun (x : Nat) => (#[] : Array Value)[x % (#[] : Array Value).size]!) (Array.range (n * sz))) = #[] := by rw [h0]; simp
            simp only [Sem.run_bind, Sem.run_pure, Result.andThen_ok, e1, h2, Go.newRow, run_newObj, Array.toArray_toList]
          · rw [if_neg h0]
            have e1 : (Array.map (fun (x : Nat) => zv'.cells[x % zv'.cells.size]!) (Array.range (n * sz))) = ((List.range (n * zv'.cells.size)).map fun i => zv'.cells[i % zv'.cells.size]!).toArray := by
              rw [hzl]; apply Array.ext'; simp
            simp only [Sem.run_bind, Sem.run_pure, hzv, Result.andThen_ok, e1, h2, Go.newRow, run_newObj, Array.toArray_toList]
        · cases he
      · simp [dead] at he

theorem s_makeSlice (h : At P ρ H w tm a W) (ha : AtOk ρ H at_) {t : TypeId} {x y : Operand} (hx : OkW P W x) (hy : OkW P W y) (he : (aopF P (.makeSlice t x y)).val tm H at_ = some out) :
    OpRes at_ P ρ H w out ((execOp a.eval ⟨dst, .makeSlice t x y, type, pos, after, guard⟩).run P w) := by
  simp only [aopF, b2, bx_eq] at he
  cases ht : slT P t with
  | none => simp [ht, oMakeSlice, dead] at he
  | some e =>
    simp only [ht, oMakeSlice] at he
    split at he
    · rename_i sz z by_ hel hby
      simp only [val_mk, opdB_val] at he
      split at he
      · rename_i k1 l k2 c hl hc
        simp only [br_some_none, ob_eq_some, natZ_eq_some, Nat.ble_eq, Nat.blt_eq] at he
        obtain ⟨hs0, l', rfl, c', rfl, h1, h2, h3, he⟩ := he
        have hlv := h.opd hx
        have hcv := h.opd hy
        rw [hl] at hlv
        rw [hc] at hcv
        obtain ⟨hsz, ⟨zv, hz, rfl⟩, hlen, hone⟩ := elT_some hel
        obtain ⟨zv', hzv, hzr⟩ := run_zero (ρ := ρ) (w := w) hz
        have hzp := hzr.parts
        have hzl : zv'.cells.size = sz := by have := hzp.length; simp at this; omega
        obtain ⟨i, hi, hib⟩ := byOf_some hby
        refine s_newSlice h.real ha (reps_rel hzp c') (reps_one _ _ hone) he ?_
        have hu := slT_some ht
        have wl : IntKind.i64.wrap (l' : Int) = l' := wrap_of_fits (by show Nat.blt l' 9223372036854775808 = true; rw [Nat.blt_eq]; omega)
        have wc : IntKind.i64.wrap (c' : Int) = c' := wrap_of_fits (by show Nat.blt c' 9223372036854775808 = true; rw [Nat.blt_eq]; omega)
        have hbc : (i.bytes : Int) * (c' : Int) ≤ 281474976710656 := by
          have h2' : by_ * c' ≤ 281474976710656 := h2
          rw [hib, ← Int.natCast_mul]; omega
        simp only [execOp, Instr.makeSlice, Sem.run_bind, run_und hu, Result.andThen_ok, rel_int hlv, rel_int hcv, asInt, asIntOf, pure_bind, run_info hi, wl, wc, Sem.run_pure]
        have hc0 : ¬ ((c' : Int) < 0) := by omega
        have hb0 : ¬ ((i.bytes : Int) * (c' : Int) > 2 ^ 48) := by simp only [Int.reducePow]; omega
        have hl0 : ¬ ((l' : Int) < 0) := by omega
        have hlc : ¬ ((l' : Int) > c') := by omega
        simp only [hc0, hb0, hl0, hlc, decide_false, Bool.or_false, Bool.false_or, Bool.false_eq_true, if_false, Sem.run_bind, run_askRoom, Result.andThen_ok, run_size hsz, Int.toNat_natCast]
        have e1 : (Array.map (fun (x : Nat) => zv'.cells[x % zv'.cells.size]!) (Array.range (c' * sz))) = ((List.range (c' * zv'.cells.size)).map fun i => zv'.cells[i % zv'.cells.size]!).toArray := by
          rw [hzl]; apply Array.ext'; simp
        by_cases h0 : c' * sz = 0
        · rw [if_pos h0]
          have e2 : (Array.map (fun (x : Nat) => (#[] : Array Value)[x % (#[] : Array Value).size]!) (Array.range (c' * sz))) = ((List.range (c' * zv'.cells.size)).map fun i => zv'.cells[i % zv'.cells.size]!).toArray := by
            rw [hzl, h0]; simp
          simp only [Sem.run_bind, Sem.run_pure, Result.andThen_ok, e2, Go.newRow, run_newObj]
        · rw [if_neg h0]
          simp only [Sem.run_bind, Sem.run_pure, hzv, Result.andThen_ok, e1, Go.newRow, run_newObj]
      · cases he
    · simp [dead] at he

end ops
end Go.Ab
