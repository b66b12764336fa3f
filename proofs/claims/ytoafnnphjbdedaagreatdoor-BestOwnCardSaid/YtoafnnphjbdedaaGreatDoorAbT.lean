/- A drawn region, whatever its order. -/
import Derived.Test.YtoafnnphjbdedaaGreatDoorAbS
namespace Go.Ab
variable {P : Program}

section rc
variable {ops : Array Oper} {E : List Ins} {cx : Cx} {base N : Nat} {tm0 tmF : TM0} {H0 HF : AH}

theorem rankF_succ (ops : Array Oper) (n : Nat) : rankF ops (n + 1) = if isFloat (opAt ops n) then rankF ops n + 1 else rankF ops n := by
  have e : rankF ops (n + 1) = br (isFloat (opAt ops n)) (Nat.succ (rankF ops n)) (rankF ops n) := rfl
  rw [e, br_eq]
theorem rankF_mono (ops : Array Oper) {i j : Nat} (h : i ≤ j) : rankF ops i ≤ rankF ops j := by
  induction h with
  | refl => exact Nat.le_refl _
  | step h ih => rw [Nat.succ_eq_add_one, rankF_succ]; split <;> omega
theorem rankF_lt (ops : Array Oper) {i j : Nat} (h : i < j) (hf : isFloat (opAt ops i) = true) : rankF ops i < rankF ops j := by
  have h1 := rankF_succ ops i
  rw [if_pos hf] at h1
  have h2 := rankF_mono ops (show i + 1 ≤ j from h)
  omega
theorem idF_inj {i j : Nat} (hi : isFloat (opAt ops i) = true) (hj : isFloat (opAt ops j) = true) (h : idF ops base i = idF ops base j) : i = j := by
  unfold idF at h
  rcases Nat.lt_trichotomy i j with hlt | he | hlt
  · have := rankF_lt ops hlt hi; omega
  · exact he
  · have := rankF_lt ops hlt hj; omega

/-- What is known when the operations S have been carried out: the chain has come to the end of B. -/
structure Inv (P : Program) (ops : Array Oper) (E : List Ins) (cx : Cx) (base N : Nat) (tm0 : TM0) (H0 Hs : AH) (ρ0 : Env) (w0 : World) (ds : List Deferred) (S : Nat → Prop) (ρ : Env) (B : List Ins) (tmB : TM0) (G H1 : AH) (a : Act) (w : World) : Prop where
  pre : B <+: E
  run : runE P ops cx base B (tm0, H0) = some (tmB, G)
  last : B = [] ∨ ∃ B' c, B = B' ++ [.go c] ∧ isChain P (opAt ops c) = true
  mem : ∀ i, S i → i < ops.size
  down : ∀ i, S i → ∀ k, (bfAt (Region.before ops) i).testBit k = true → S k
  chain : ∀ i, i < ops.size → isChain P (opAt ops i) = true → (S i ↔ .go i ∈ B)
  inB : ∀ i, .go i ∈ B → isFloat (opAt ops i) = true → S i
  next : H1.next = G.next
  sub : ∀ b x, G.get b = some x → H1.get b = some x
  early : ∀ f x, S f → .go f ∉ B → Adds P ops E cx base tm0 H0 f x → H1.get (idF ops base f) = some x
  only : ∀ b x, H1.get b = some x → G.get b = some x ∨ ∃ f, S f ∧ .go f ∉ B ∧ b = idF ops base f ∧ Adds P ops E cx base tm0 H0 f x
  clean : ∀ f, f < ops.size → isFloat (opAt ops f) = true → .go f ∉ B → G.get (idF ops base f) = none
  unk : ∀ f, f < ops.size → isFloat (opAt ops f) = true → (¬ S f ∨ ∀ x, ¬ Adds P ops E cx base tm0 H0 f x) → ρ (idF ops base f) = none
  low : base + rankF ops ops.size ≤ G.next
  good : Good none P ρ0 Hs w0 ρ H1 w
  size : a.tmps.size = N
  defers : a.defers = ds
  new : ∀ i t, S i → opDst ops i = some t → Rel ρ (VOf P ops E cx base tm0 H0 i) (a.tmps.getD t undef)
  old : ∀ t, (∀ i, S i → opDst ops i ≠ some t) → Rel ρ (tm0.get t) (a.tmps.getD t undef)

variable {Hs : AH} {ρ0 : Env} {w0 : World} {ds : List Deferred} {S : Nat → Prop} {ρ : Env} {B : List Ins} {tmB : TM0} {G H1 : AH} {a : Act} {w : World}

theorem RC.lt (c : RC P ops E cx base N tm0 tmF H0 HF) {A : List Ins} (hA : A <+: E) {k : Nat} (h : .go k ∈ A) : k < ops.size := by
  obtain ⟨F1, F2, e⟩ := List.append_of_mem (hA.subset h)
  exact (c.ord.go e).1

/-- What an operation looks at, at a place of the order where the same have written. -/
theorem Inv.reads (c : RC P ops E cx base N tm0 tmF H0 HF) (h : Inv P ops E cx base N tm0 H0 Hs ρ0 w0 ds S ρ B tmB G H1 a w) {A : List Ins} {tmA : TM0} {HA : AH} (hA : A <+: E) (hr : runE P ops cx base A (tm0, H0) = some (tmA, HA)) (t : Tmp)
    (hw : ∀ y, y < ops.size → opDst ops y = some t → (.go y ∈ A ↔ S y)) : Rel ρ (tmA.get t) (a.tmps.getD t undef) := by
  obtain ⟨t1, t2, -⟩ := c.tm A tmA HA hA hr
  by_cases hy : ∃ y, .go y ∈ A ∧ opDst ops y = some t
  · obtain ⟨y, hy, hd⟩ := hy
    rw [t1 y t hy hd]
    exact h.new y t ((hw y (c.lt hA hy) hd).1 hy) hd
  · rw [t2 t fun y hm hd => hy ⟨y, hm, hd⟩]
    exact h.old t fun y hS hd => hy ⟨y, (hw y (h.mem y hS) hd).2 hS, hd⟩

/-- What a ready operation looks at, as recorded. -/
theorem Inv.readsPre (c : RC P ops E cx base N tm0 tmF H0 HF) (h : Inv P ops E cx base N tm0 H0 Hs ρ0 w0 ds S ρ B tmB G H1 a w) {i : Nat} {o : Oper} {tmA : TM0} {HA : AH} {v : AV} {H' : AH} (r : Rcd P ops E cx base tm0 H0 i o tmA HA v H')
    (hn : ¬ S i) (hb : ∀ k, (bfAt (Region.before ops) i).testBit k = true → S k) (t : Tmp) (ht : t ∈ readsAt ops i) : Rel ρ (tmA.get t) (a.tmps.getD t undef) := by
  obtain ⟨E2, e⟩ := r.split
  obtain ⟨hi, hni, hbf⟩ := c.ord.go e
  refine h.reads c ⟨_, e.symm⟩ r.run t fun y hy hd => ?_
  rcases c.ord.reads i y t hi hy hd ht with rfl | q | q
  · exact ⟨fun q => absurd q hni, fun q => absurd q hn⟩
  · exact ⟨fun _ => hb y q, fun _ => hbf y q⟩
  · refine ⟨fun hm => ?_, fun hS => absurd (h.down y hS i q) hn⟩
    obtain ⟨F1, F2, e1⟩ := List.append_of_mem hm
    have e2 : E = F1 ++ .go y :: (F2 ++ .go i :: E2) := by rw [e, e1]; simp
    exact absurd ((c.ord.go e2).2.2 i q) fun hq => hni (by rw [e1]; simp [hq])

theorem reads_opd {i : Nat} {o : Oper} (ho : ops[i]? = some o) {t : Tmp} (h : .tmp t ∈ o.op.operands.toList) : t ∈ readsAt ops i := by
  unfold readsAt readsOf
  rw [ho]
  simp only [List.mem_append, List.mem_filterMap]
  exact .inl ⟨_, h, rfl⟩
theorem reads_guard {i : Nat} {o : Oper} (ho : ops[i]? = some o) {t : Tmp} (h : guardTmp ops o.guard = some t) : t ∈ readsAt ops i := by
  unfold readsAt readsOf
  rw [ho]
  simp [h]

/-- The temporaries, one more operation carried out. -/
theorem Inv.put (c : RC P ops E cx base N tm0 tmF H0 HF) (h : Inv P ops E cx base N tm0 H0 Hs ρ0 w0 ds S ρ B tmB G H1 a w) {i : Nat} {o : Oper} {tmA : TM0} {HA : AH} {v : AV} {H' : AH} (r : Rcd P ops E cx base tm0 H0 i o tmA HA v H') (hi : i < ops.size) {ρ' : Env} (hle : Le ρ ρ') {v' : Value} (hv : Rel ρ' v v') :
    (a.put o.dst v').tmps.size = N ∧ (a.put o.dst v').defers = ds ∧ (∀ j t, S j ∨ j = i → opDst ops j = some t → Rel ρ' (VOf P ops E cx base tm0 H0 j) ((a.put o.dst v').tmps.getD t undef)) ∧
    ∀ t, (∀ j, S j ∨ j = i → opDst ops j ≠ some t) → Rel ρ' (tm0.get t) ((a.put o.dst v').tmps.getD t undef) := by
  have hd := opDst_of r.op
  have hV := VOf_eq r
  have get : ∀ t, (a.put o.dst v').tmps.getD t undef = if o.dst = some t ∧ t < N then v' else a.tmps.getD t undef := by
    intro t
    cases hdst : o.dst with
    | none => simp [Act.put]
    | some d =>
      simp only [Act.put, Array.getD_eq_getD_getElem?, Array.getElem?_setIfInBounds, h.size]
      by_cases e : d = t
      · subst e
        by_cases hlt : d < N
        · simp [hlt]
        · have hsz : ¬ d < a.tmps.size := by rw [h.size]; exact hlt
          simp [hlt, hsz]
      · have e' : ¬ (some d = some t ∧ t < N) := fun q => e (Option.some.inj q.1)
        simp [e]
  refine ⟨?_, by rw [put_defers, h.defers], fun j t hj hdj => ?_, fun t ht => ?_⟩
  · cases o.dst with
    | none => exact h.size
    | some d => simp only [Act.put, Array.size_setIfInBounds]; exact h.size
  · rw [get]
    by_cases hji : j = i
    · subst hji
      rw [hd] at hdj
      have hlt := c.dsts j t (by rw [hd]; exact hdj)
      rw [if_pos ⟨hdj, hlt⟩, hV]
      exact hv
    · have hS : S j := hj.resolve_right hji
      have : ¬ (o.dst = some t ∧ t < N) := fun q => hji (c.ord.one j i t (h.mem j hS) hi hdj (by rw [hd]; exact q.1))
      rw [if_neg this]
      exact (h.new j t hS hdj).mono hle
  · rw [get]
    have : ¬ (o.dst = some t ∧ t < N) := fun q => ht i (.inr rfl) (by rw [hd]; exact q.1)
    rw [if_neg this]
    exact (h.old t fun j hS => ht j (.inl hS)).mono hle

/-- Another operation, not of the chain, that leaves the heap alone. -/
theorem Inv.still (c : RC P ops E cx base N tm0 tmF H0 HF) (h : Inv P ops E cx base N tm0 H0 Hs ρ0 w0 ds S ρ B tmB G H1 a w) {i : Nat} {o : Oper} {tmA : TM0} {HA : AH} {v : AV} {H' : AH} (r : Rcd P ops E cx base tm0 H0 i o tmA HA v H') (hi : i < ops.size)
    (hb : ∀ k, (bfAt (Region.before ops) i).testBit k = true → S k) (hc : isChain P (opAt ops i) = false) (hno : ∀ x, ¬ Adds P ops E cx base tm0 H0 i x) {ρ' : Env} {w' : World} (g : Good none P ρ H1 w ρ' H1 w') {v' : Value} (hv : Rel ρ' v v') :
    Inv P ops E cx base N tm0 H0 Hs ρ0 w0 ds (fun j => S j ∨ j = i) ρ' B tmB G H1 (a.put o.dst v') w' := by
  obtain ⟨p1, p2, p3, p4⟩ := h.put c r hi g.ev.le hv
  have lowid : ∀ f, f < ops.size → isFloat (opAt ops f) = true → idF ops base f < H1.next := fun f hf hff => by
    have := rankF_lt ops hf hff
    have := h.low
    rw [h.next]; unfold idF; omega
  refine ⟨h.pre, h.run, h.last, fun j hj => ?_, fun j hj k hk => ?_, fun j hj hjc => ?_, fun j hj hf => .inl (h.inB j hj hf), h.next, h.sub, fun f x hf hfb ha => ?_, fun b x hx => ?_, h.clean, fun f hf hff hq => ?_, h.low, h.good.trans g, p1, p2, p3, p4⟩
  · rcases hj with hj | rfl
    · exact h.mem j hj
    · exact hi
  · rcases hj with hj | rfl
    · exact .inl (h.down j hj k hk)
    · exact .inl (hb k hk)
  · rw [← h.chain j hj hjc]
    refine ⟨fun q => q.resolve_right fun e => ?_, .inl⟩
    rw [e, hc] at hjc; cases hjc
  · rcases hf with hf | rfl
    · exact h.early f x hf hfb ha
    · exact absurd ha (hno x)
  · exact (h.only b x hx).imp id fun ⟨f, q1, q2⟩ => ⟨f, .inl q1, q2⟩
  · refine g.ev.ids _ (lowid f hf hff) (h.unk f hf hff ?_) (by simp)
    rcases hq with hq | hq
    · exact .inl fun hS => hq (.inl hS)
    · exact .inr hq

/-- An operation that adds a block at its kept place. -/
theorem Inv.float (c : RC P ops E cx base N tm0 tmF H0 HF) (h : Inv P ops E cx base N tm0 H0 Hs ρ0 w0 ds S ρ B tmB G H1 a w) {i : Nat} {o : Oper} {tmA : TM0} {HA : AH} {v : AV} {H' : AH} (r : Rcd P ops E cx base tm0 H0 i o tmA HA v H') (hi : i < ops.size) (hn : ¬ S i)
    (hb : ∀ k, (bfAt (Region.before ops) i).testBit k = true → S k) (hc : isChain P (opAt ops i) = false) (hf : isFloat (opAt ops i) = true) (hs : Hs.next ≤ base) {blk : ABlk} (ha : Adds P ops E cx base tm0 H0 i blk) {ρ' : Env} {w' : World}
    (g : Good (some (idF ops base i)) P ρ H1 w ρ' (H1.put (idF ops base i) (some blk)) w') {v' : Value} (hv : Rel ρ' v v') :
    Inv P ops E cx base N tm0 H0 Hs ρ0 w0 ds (fun j => S j ∨ j = i) ρ' B tmB G (H1.put (idF ops base i) (some blk)) (a.put o.dst v') w' := by
  obtain ⟨p1, p2, p3, p4⟩ := h.put c r hi g.ev.le hv
  have lowid : ∀ f, f < ops.size → isFloat (opAt ops f) = true → idF ops base f < H1.next := fun f hf hff => by
    have := rankF_lt ops hf hff
    have := h.low
    rw [h.next]; unfold idF; omega
  have hiB : .go i ∉ B := fun q => hn (h.inB i q hf)
  have uniq : ∀ x, Adds P ops E cx base tm0 H0 i x → x = blk := by
    rintro x ⟨-, o1, t1, A1, v1, G1, r1, -, e1⟩
    obtain ⟨-, o2, t2, A2, v2, G2, r2, -, e2⟩ := ha
    obtain ⟨-, -, rfl, -, rfl⟩ := r1.same r2
    rw [e1] at e2
    have := congrArg (fun K => AH.get K (idF ops base i)) e2
    simp only [AH.get_put, if_true, Option.some.injEq] at this
    exact this
  refine ⟨h.pre, h.run, h.last, fun j hj => ?_, fun j hj k hk => ?_, fun j hj hjc => ?_, fun j hj hf => .inl (h.inB j hj hf), by rw [put_next]; exact h.next, fun b x hx => ?_, fun f x hS hfb hadd => ?_, fun b x hx => ?_, h.clean, fun f hf' hff hq => ?_, h.low,
    h.good.transAt g (by unfold idF; omega), p1, p2, p3, p4⟩
  · rcases hj with hj | rfl
    · exact h.mem j hj
    · exact hi
  · rcases hj with hj | rfl
    · exact .inl (h.down j hj k hk)
    · exact .inl (hb k hk)
  · rw [← h.chain j hj hjc]
    refine ⟨fun q => q.resolve_right fun e => ?_, .inl⟩
    rw [e, hc] at hjc; cases hjc
  · rw [AH.get_put]
    split
    · rename_i e
      rw [e, h.clean i hi hf hiB] at hx
      cases hx
    · exact h.sub b x hx
  · rw [AH.get_put]
    rcases hS with hS | rfl
    · have hne : idF ops base f ≠ idF ops base i := fun e => hn (idF_inj hadd.1 hf e ▸ hS)
      rw [if_neg hne]
      exact h.early f x hS hfb hadd
    · rw [if_pos rfl, uniq x hadd]
  · rw [AH.get_put] at hx
    split at hx
    · rename_i e
      cases hx
      exact .inr ⟨i, .inr rfl, hiB, e, ha⟩
    · exact (h.only b x hx).imp id fun ⟨f, q1, q2⟩ => ⟨f, .inl q1, q2⟩
  · refine g.ev.ids _ (lowid f hf' hff) (h.unk f hf' hff ?_) fun e => ?_
    · rcases hq with hq | hq
      · exact .inl fun hS => hq (.inl hS)
      · exact .inr hq
    · have hfi : i = f := idF_inj hf hff (Option.some.inj e)
      rcases hq with hq | hq
      · exact hq (.inr hfi.symm)
      · exact hq blk (hfi ▸ ha)

/-- What is recorded of a ready operation lies behind B; in between, the chain stands still. -/
theorem Inv.behind (c : RC P ops E cx base N tm0 tmF H0 HF) (h : Inv P ops E cx base N tm0 H0 Hs ρ0 w0 ds S ρ B tmB G H1 a w) {i : Nat} {E1 E2 : List Ins} (e : E = E1 ++ .go i :: E2) (hiB : .go i ∉ B) (hch : ∀ k, .go k ∈ E1 → isChain P (opAt ops k) = true → S k) :
    ∃ R, E1 = B ++ R ∧ ∀ k, .go k ∈ R → isChain P (opAt ops k) = false := by
  obtain ⟨T, hT⟩ := h.pre
  have hBp : B <+: E1 := by
    rw [e] at hT
    rcases List.append_eq_append_iff.1 hT with ⟨R, rfl, _⟩ | ⟨R, rfl, h2⟩
    · exact List.prefix_append _ _
    · cases R with
      | nil => exact ⟨[], by simp⟩
      | cons x R =>
        simp only [List.cons_append, List.cons.injEq] at h2
        exact absurd (by rw [← h2.1]; simp) hiB
  obtain ⟨R, rfl⟩ := hBp
  refine ⟨R, rfl, fun k hk => ?_⟩
  rw [← Bool.not_eq_true]
  intro hkc
  have hkl : k < ops.size := c.lt (A := B ++ R) ⟨_, e.symm⟩ (by simp [hk])
  have hkB := (h.chain k hkl hkc).1 (hch k (by simp [hk]) hkc)
  -- k would stand twice
  obtain ⟨R1, R2, rfl⟩ := List.append_of_mem hk
  have e2 : E = (B ++ R1) ++ .go k :: (R2 ++ .go i :: E2) := by rw [e]; simp
  exact (c.ord.go e2).2.1 (by simp [hkB])

/-- The heap at a place behind B, seen from here. -/
theorem Inv.seen (c : RC P ops E cx base N tm0 tmF H0 HF) (h : Inv P ops E cx base N tm0 H0 Hs ρ0 w0 ds S ρ B tmB G H1 a w) {R : List Ins} {tmA : TM0} {HA : AH} (hp : B ++ R <+: E) (hR : ∀ k, .go k ∈ R → isChain P (opAt ops k) = false)
    (hr : runE P ops cx base (B ++ R) (tm0, H0) = some (tmA, HA)) : HA.next = H1.next ∧ ∀ b x, HA.get b = some x → (∀ f, .go f ∈ R → b = idF ops base f → Adds P ops E cx base tm0 H0 f x → S f) → H1.get b = some x := by
  obtain ⟨n1, n2⟩ := c.calm h.run R tmA HA hp hR hr
  refine ⟨by rw [n1, h.next], fun b x hb hS => ?_⟩
  rcases n2 b x hb with q | ⟨f, q1, q2, q3⟩
  · exact h.sub b x q
  · rw [q2]
    refine h.early f x (hS f q1 q2 q3) (fun hfB => ?_) q3
    obtain ⟨R1, R2, rfl⟩ := List.append_of_mem q1
    obtain ⟨T, hT⟩ := hp
    have e2 : E = (B ++ R1) ++ .go f :: (R2 ++ T) := by rw [← hT]; simp
    exact (c.ord.go e2).2.1 (by simp [hfB])

end rc
end Go.Ab
