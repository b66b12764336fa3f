/- A drawn region: what is known at each of its states. -/
import Derived.Test.YtoafnnphjbdedaaGreatDoorAbR
import Derived.Orders
namespace Go.Ab
variable {P : Program}

mutual
theorem AV.beq_eq : ∀ (a b : AV), AV.beq a b = true → a = b
  | .bool a, b, h => by cases b <;> simp [AV.beq] at h; simp [h]
  | .int k a, b, h => by cases b <;> simp [AV.beq, eqZ_eq] at h; simp [h]
  | .str a, b, h => by cases b <;> simp [AV.beq, strEq_eq] at h; simp [h]
  | .ptr none, b, h => by
    cases b with
    | ptr p => rcases p with _ | ⟨b, o⟩ <;> simp [AV.beq] at h ⊢
    | _ => simp [AV.beq] at h
  | .ptr (some (a, o)), b, h => by
    cases b with
    | ptr p => rcases p with _ | ⟨b, o⟩ <;> simp [AV.beq] at h ⊢; exact h
    | _ => simp [AV.beq] at h
  | .slice none n c x, b, h => by
    cases b with
    | slice p m d y => rcases p with _ | ⟨b, o⟩ <;> simp [AV.beq] at h ⊢; exact h
    | _ => simp [AV.beq] at h
  | .slice (some (a, o)) n c x, b, h => by
    cases b with
    | slice p m d y => rcases p with _ | ⟨b, o⟩ <;> simp [AV.beq] at h ⊢; exact ⟨⟨h.1, h.2.1⟩, h.2.2⟩
    | _ => simp [AV.beq] at h
  | .tail a o, b, h => by cases b <;> simp [AV.beq] at h; simp [h]
  | .map none, b, h => by
    cases b with
    | map p => cases p <;> simp [AV.beq] at h ⊢
    | _ => simp [AV.beq] at h
  | .map (some a), b, h => by
    cases b with
    | map p => cases p <;> simp [AV.beq] at h ⊢; exact h
    | _ => simp [AV.beq] at h
  | .fn _ _ _, b, h => by cases b <;> simp [AV.beq] at h
  | .yld a, b, h => by cases b <;> simp [AV.beq] at h; simp [h]
  | .nilFn, b, h => by cases b <;> simp [AV.beq] at h; rfl
  | .iface t v, b, h => by
    cases b with
    | iface u w => simp [AV.beq] at h; rw [h.1, AV.beq_eq v w h.2]
    | _ => simp [AV.beq] at h
  | .nilIface, b, h => by cases b <;> simp [AV.beq] at h; rfl
  | .agg x, b, h => by
    cases b with
    | agg y => simp [AV.beq] at h; rw [AV.beqL_eq x y h]
    | _ => simp [AV.beq] at h
  | .tup x, b, h => by
    cases b with
    | tup y => simp [AV.beq] at h; rw [AV.beqL_eq x y h]
    | _ => simp [AV.beq] at h
theorem AV.beqL_eq : ∀ (a b : List AV), AV.beqL a b = true → a = b
  | [], b, h => by cases b <;> simp [AV.beqL] at h; rfl
  | x :: a, b, h => by
    cases b with
    | nil => simp [AV.beqL] at h
    | cons y b => simp [AV.beqL] at h; rw [AV.beq_eq x y h.1, AV.beqL_eq a b h.2]
end

theorem rev_ind {α : Type} {motive : List α → Prop} (nil : motive []) (snoc : ∀ l x, motive l → motive (l ++ [x])) (l : List α) : motive l := by
  have : ∀ r : List α, motive r.reverse := by
    intro r
    induction r with
    | nil => exact nil
    | cons x r ih => rw [List.reverse_cons]; exact snoc _ _ ih
  have h := this l.reverse
  rwa [List.reverse_reverse] at h

/-! Records. -/
def preE (E : List Ins) (i : Nat) : List Ins := E.takeWhile fun x => !isGo i x

theorem preE_of {E1 E2 : List Ins} {i : Nat} (h : .go i ∉ E1) : preE (E1 ++ .go i :: E2) i = E1 := by
  unfold preE
  induction E1 with
  | nil => simp [isGo]
  | cons x E1 ih =>
    have hx : isGo i x = false := by
      rw [← Bool.not_eq_true, isGo_iff]
      intro e; exact h (by simp [e])
    simp only [List.cons_append, List.takeWhile_cons, hx, Bool.not_false, if_true]
    rw [ih fun hm => h (by simp [hm])]

/-- All that is given of a drawn region's run. -/
structure RC (P : Program) (ops : Array Oper) (E : List Ins) (cx : Cx) (base N : Nat) (tm0 tmF : TM0) (H0 HF : AH) : Prop where
  ord : Order P ops E
  run : runE P ops cx base E (tm0, H0) = some (tmF, HF)
  dsts : ∀ i t, opDst ops i = some t → t < N
  room : ∀ t, t < N → tm0.has t = true
  next : H0.next = base + rankF ops ops.size

section rc
variable {ops : Array Oper} {E : List Ins} {cx : Cx} {base N : Nat} {tm0 tmF : TM0} {H0 HF : AH}

theorem RC.pre (c : RC P ops E cx base N tm0 tmF H0 HF) {E1 E2 : List Ins} {i : Nat} (e : E = E1 ++ .go i :: E2) : preE E i = E1 := by
  rw [e]; exact preE_of (c.ord.go e).2.1

theorem RC.part (c : RC P ops E cx base N tm0 tmF H0 HF) {B : List Ins} (h : B <+: E) : ∃ s, runE P ops cx base B (tm0, H0) = some s := by
  obtain ⟨T, rfl⟩ := h
  have := c.run
  rw [runE_append] at this
  cases h : runE P ops cx base B (tm0, H0) with
  | none => rw [h] at this; cases this
  | some s => exact ⟨s, rfl⟩

/-- What is recorded of an operation. -/
structure Rcd (P : Program) (ops : Array Oper) (E : List Ins) (cx : Cx) (base : Nat) (tm0 : TM0) (H0 : AH) (i : Nat) (o : Oper) (tmA : TM0) (HA : AH) (v : AV) (H' : AH) : Prop where
  split : ∃ E2, E = preE E i ++ .go i :: E2
  op : ops[i]? = some o
  run : runE P ops cx base (preE E i) (tm0, H0) = some (tmA, HA)
  go : goE P ops cx (atE ops base i) o tmA HA = some (v, H')

theorem RC.rcd (c : RC P ops E cx base N tm0 tmF H0 HF) {i : Nat} (hi : i < ops.size) : ∃ o tmA HA v H', Rcd P ops E cx base tm0 H0 i o tmA HA v H' := by
  obtain ⟨E1, E2, e⟩ := List.append_of_mem (c.ord.all i hi)
  have hp := c.pre e
  subst hp
  obtain ⟨⟨tmA, HA⟩, h1⟩ := c.part (B := preE E i) ⟨_, e.symm⟩
  have h2 : runE P ops cx base (preE E i ++ [.go i]) (tm0, H0) = (runE P ops cx base (preE E i) (tm0, H0)).bind (runE P ops cx base [.go i]) := runE_append _ _ _
  obtain ⟨s, h3⟩ := c.part (B := preE E i ++ [.go i]) ⟨E2, by rw [List.append_assoc]; exact e.symm⟩
  rw [h3, h1, Option.bind_some] at h2
  have ho : ops[i]? = some ops[i] := Array.getElem?_eq_getElem hi
  simp only [runE, insE, ho, Option.bind_some] at h2
  cases hg : goE P ops cx (atE ops base i) ops[i] tmA HA with
  | none => rw [hg] at h2; cases h2
  | some r => exact ⟨_, tmA, HA, r.1, r.2, ⟨E2, e⟩, ho, h1, hg⟩

theorem Rcd.same {i : Nat} {o o' : Oper} {tmA tmA' : TM0} {HA HA' : AH} {v v' : AV} {H' H'' : AH} (a : Rcd P ops E cx base tm0 H0 i o tmA HA v H') (b : Rcd P ops E cx base tm0 H0 i o' tmA' HA' v' H'') : o = o' ∧ tmA = tmA' ∧ HA = HA' ∧ v = v' ∧ H' = H'' := by
  have h1 := a.op; rw [b.op] at h1; cases h1
  have h2 := a.run; rw [b.run] at h2; cases h2
  have h3 := a.go; rw [b.go] at h3; cases h3
  exact ⟨rfl, rfl, rfl, rfl, rfl⟩

open Classical in
/-- The value that an operation leaves. -/
noncomputable def VOf (P : Program) (ops : Array Oper) (E : List Ins) (cx : Cx) (base : Nat) (tm0 : TM0) (H0 : AH) (i : Nat) : AV :=
  if h : ∃ v, ∃ o tmA HA H', Rcd P ops E cx base tm0 H0 i o tmA HA v H' then h.choose else undefA
theorem VOf_eq {i : Nat} {o : Oper} {tmA : TM0} {HA : AH} {v : AV} {H' : AH} (r : Rcd P ops E cx base tm0 H0 i o tmA HA v H') : VOf P ops E cx base tm0 H0 i = v := by
  have h : ∃ v, ∃ o tmA HA H', Rcd P ops E cx base tm0 H0 i o tmA HA v H' := ⟨v, o, tmA, HA, H', r⟩
  unfold VOf
  rw [dif_pos h]
  obtain ⟨o', tmA', HA', H2, r'⟩ := h.choose_spec
  exact (r'.same r).2.2.2.1

noncomputable def idF (ops : Array Oper) (base i : Nat) : Nat := base + rankF ops i

/-- The block that an operation adds, carried out ahead of the chain. -/
def Adds (P : Program) (ops : Array Oper) (E : List Ins) (cx : Cx) (base : Nat) (tm0 : TM0) (H0 : AH) (i : Nat) (blk : ABlk) : Prop :=
  isFloat (opAt ops i) = true ∧ ∃ o tmA HA v H', Rcd P ops E cx base tm0 H0 i o tmA HA v H' ∧ (guardB ops o.guard).val tmA = true ∧ H' = HA.put (idF ops base i) (some blk)

theorem opAt_of {i : Nat} {o : Oper} (h : ops[i]? = some o) : opAt ops i = o.op := by unfold opAt; rw [h]
theorem opDst_of {i : Nat} {o : Oper} (h : ops[i]? = some o) : opDst ops i = o.dst := by unfold opDst; rw [h]

/-- What an operation that is not of the chain does. -/
theorem goE_kind {i : Nat} {o : Oper} {tm : TM0} {H : AH} {v : AV} {H' : AH} (ho : ops[i]? = some o) (hc : isChain P (opAt ops i) = false) (hg : goE P ops cx (atE ops base i) o tm H = some (v, H')) :
    ((guardB ops o.guard).val tm = false ∧ v = undefA ∧ H' = H) ∨
    ((guardB ops o.guard).val tm = true ∧ isFloat (opAt ops i) = true ∧ ∃ blk, H' = H.put (idF ops base i) (some blk) ∧ ∀ H2, goE P ops cx (some (idF ops base i)) o tm H2 = some (v, H2.put (idF ops base i) (some blk))) ∨
    ((guardB ops o.guard).val tm = true ∧ isFloat (opAt ops i) = false ∧ H' = H ∧ (∀ x ∈ o.op.operands.toList, okOpd P x = true) ∧ ((∀ H2 at', goE P ops cx at' o tm H2 = some (v, H2)) ∨
      (isLook P (opAt ops i) = true ∧ ∀ {ρ : Env} {H2 : AH} {at' : Option Nat}, (∀ x ∈ o.op.operands.toList, ∃ v', Rel ρ (opd tm x) v') → Incl ρ H H2 → goE P ops cx at' o tm H2 = some (v, H2)))) := by
  have hop := opAt_of ho
  unfold goE at hg
  by_cases hw : (guardB ops o.guard).val tm = true
  · rw [if_pos hw] at hg
    right
    cases hout : (aop P o.op).val tm H (atE ops base i) with
    | none => rw [hout] at hg; cases hg
    | some out =>
      rw [hout] at hg
      obtain ⟨hok, hout⟩ := aop_some.1 hout
      by_cases hf : isFloat (opAt ops i) = true
      · left
        have ha : atE ops base i = some (idF ops base i) := by unfold atE; rw [if_pos hf]; rfl
        rw [ha] at hout
        obtain ⟨u, blk, rfl, h2⟩ := floatF (P := P) (id := idF ops base i) (hop ▸ hf) tm H out hout
        cases hg
        refine ⟨hw, hf, blk, rfl, fun H2 => ?_⟩
        unfold goE
        rw [if_pos hw, aop_some.2 ⟨hok, h2 H2⟩]
        rfl
      · right
        have hf : isFloat (opAt ops i) = false := by simpa using hf
        by_cases hl : isLook P (opAt ops i) = true
        · obtain ⟨u, rfl, h2⟩ := lookF (hop ▸ hl) hout
          cases hg
          refine ⟨hw, hf, rfl, by rw [allB_eq] at hok; exact List.all_eq_true.1 hok, .inr ⟨hl, fun {ρ H2 at'} hx hi => ?_⟩⟩
          unfold goE
          rw [if_pos hw, aop_some.2 ⟨hok, h2 hx hi⟩]
          rfl
        · have hp : isPure (opAt ops i) = true := by
            have hl : isLook P (opAt ops i) = false := by simpa using hl
            unfold isChain at hc
            rw [hf, hl] at hc
            simpa using hc
          obtain ⟨u, rfl, h2⟩ := pureF (P := P) (hop ▸ hp) tm H _ out hout
          cases hg
          refine ⟨hw, hf, rfl, by rw [allB_eq] at hok; exact List.all_eq_true.1 hok, .inl fun H2 at' => ?_⟩
          unfold goE
          rw [if_pos hw, aop_some.2 ⟨hok, h2 H2 at'⟩]
          rfl
  · rw [if_neg hw] at hg
    cases hg
    exact .inl ⟨by simpa using hw, rfl, rfl⟩

theorem runE_snoc (B : List Ins) (x : Ins) (s : TM0 × AH) : runE P ops cx base (B ++ [x]) s = (runE P ops cx base B s).bind (insE P ops cx base x) := by
  rw [runE_append]
  cases runE P ops cx base B s with
  | none => rfl
  | some s' =>
    simp only [Option.bind_some, runE]
    cases insE P ops cx base x s' <;> rfl

theorem insE_re {i : Nat} {s s' : TM0 × AH} (h : insE P ops cx base (.re i) s = some s') : s' = s ∧ ∃ o d, ops[i]? = some o ∧ o.dst = some d ∧
    ((guardB ops o.guard).val s.1 = true → ∃ v H', (aop P o.op).val s.1 s.2 none = some (.val v H') ∧ v = s.1.get d) := by
  simp only [insE] at h
  cases ho : ops[i]? with
  | none => rw [ho] at h; cases h
  | some o =>
    rw [ho] at h
    simp only [Option.bind_some] at h
    cases hd : o.dst with
    | none => rw [hd] at h; cases h
    | some d =>
      rw [hd] at h
      simp only [Option.bind_some] at h
      split at h
      · rename_i hg
        split at h
        · rename_i v H' hv
          split at h
          · rename_i hb
            cases h
            exact ⟨rfl, o, d, rfl, hd, fun _ => ⟨v, H', hv, AV.beq_eq _ _ hb⟩⟩
          · cases h
        · cases h
      · rename_i hg
        cases h
        exact ⟨rfl, o, d, rfl, hd, fun hq => absurd hq hg⟩

/-- The temporaries behind a part of the order. -/
theorem RC.tm (c : RC P ops E cx base N tm0 tmF H0 HF) : ∀ (B : List Ins) (tmB : TM0) (G : AH), B <+: E → runE P ops cx base B (tm0, H0) = some (tmB, G) →
    (∀ i t, .go i ∈ B → opDst ops i = some t → tmB.get t = VOf P ops E cx base tm0 H0 i) ∧ (∀ t, (∀ i, .go i ∈ B → opDst ops i ≠ some t) → tmB.get t = tm0.get t) ∧ ∀ t, tmB.has t = tm0.has t := by
  intro B
  induction B using rev_ind with
  | nil =>
    intro tmB G hB hr
    cases hr
    exact ⟨fun i t h => by simp at h, fun t _ => rfl, fun t => rfl⟩
  | snoc B x ih =>
    intro tmB G hB hr
    have hB' : B <+: E := (List.prefix_append B [x]).trans hB
    rw [runE_snoc] at hr
    obtain ⟨⟨tm1, H1⟩, h1⟩ := c.part hB'
    rw [h1, Option.bind_some] at hr
    obtain ⟨i1, i2, i3⟩ := ih tm1 H1 hB' h1
    cases x with
    | re k =>
      obtain ⟨e, -⟩ := insE_re hr
      cases e
      refine ⟨fun i t h hd => i1 i t ?_ hd, fun t h => i2 t fun i hi => h i (by simp [hi]), i3⟩
      simpa using h
    | go k =>
      obtain ⟨E2, e⟩ := hB
      rw [List.append_assoc, List.singleton_append] at e
      obtain ⟨hk, hn, -⟩ := c.ord.go e.symm
      obtain ⟨o, tmA, HA, v, H', r⟩ := c.rcd hk
      have hp := c.pre e.symm
      have hrun := r.run
      rw [hp, h1] at hrun
      cases hrun
      simp only [insE, r.op, Option.bind_some, r.go, Option.map_some, Option.some.injEq, Prod.mk.injEq] at hr
      obtain ⟨rfl, rfl⟩ := hr
      have hd := opDst_of r.op
      have hV := VOf_eq r
      have get : ∀ t, (setO o.dst v tm1).get t = if opDst ops k = some t then v else tm1.get t := by
        intro t
        rw [hd]
        cases hdst : o.dst with
        | none => simp [setO]
        | some d =>
          simp only [setO]
          rw [TM0.get_set _ _ _ (by rw [i3]; exact c.room d (c.dsts k d (by rw [hd, hdst])))]
          simp [eq_comm]
      refine ⟨fun i t h hdi => ?_, fun t h => ?_, fun t => ?_⟩
      · rw [get]
        by_cases hki : i = k
        · subst hki; rw [if_pos hdi, hV]
        · have hi : .go i ∈ B := by simpa [hki] using h
          have : opDst ops k ≠ some t := fun hdk => by
            have hil : i < ops.size := by
              have := (c.ord.all)
              obtain ⟨F1, F2, e3⟩ := List.append_of_mem (hB'.subset hi)
              exact (c.ord.go e3).1
            exact hki (c.ord.one i k t hil hk hdi hdk)
          rw [if_neg this]
          exact i1 i t hi hdi
      · rw [get, if_neg (h k (by simp))]
        exact i2 t fun i hi => h i (by simp [hi])
      · cases o.dst with
        | none => exact i3 t
        | some d => simp only [setO]; rw [TM0.has_set]; exact i3 t

theorem put_next (H : AH) (b : Nat) (x : Option ABlk) : (H.put b x).next = H.next := rfl

/-- No operation of the chain: the heap gains blocks at kept places. -/
theorem RC.calm (c : RC P ops E cx base N tm0 tmF H0 HF) {B : List Ins} {tmB : TM0} {G : AH} (hb : runE P ops cx base B (tm0, H0) = some (tmB, G)) : ∀ (R : List Ins) (tmA : TM0) (HA : AH), B ++ R <+: E → (∀ i, .go i ∈ R → isChain P (opAt ops i) = false) →
    runE P ops cx base (B ++ R) (tm0, H0) = some (tmA, HA) → HA.next = G.next ∧ ∀ b x, HA.get b = some x → G.get b = some x ∨ ∃ f, .go f ∈ R ∧ b = idF ops base f ∧ Adds P ops E cx base tm0 H0 f x := by
  intro R
  induction R using rev_ind with
  | nil =>
    intro tmA HA hB _ hr
    rw [List.append_nil, hb] at hr
    cases hr
    exact ⟨rfl, fun b x h => .inl h⟩
  | snoc R x ih =>
    intro tmA HA hB hc hr
    rw [← List.append_assoc] at hB hr
    have hB' : B ++ R <+: E := (List.prefix_append _ [x]).trans hB
    rw [runE_snoc] at hr
    obtain ⟨⟨tm1, H1⟩, h1⟩ := c.part hB'
    rw [h1, Option.bind_some] at hr
    obtain ⟨i1, i2⟩ := ih tm1 H1 hB' (fun i hi => hc i (by simp [hi])) h1
    cases x with
    | re k =>
      obtain ⟨e, -⟩ := insE_re hr
      cases e
      refine ⟨i1, fun b x h => (i2 b x h).imp id fun ⟨f, h1, h2⟩ => ⟨f, by simp [h1], h2⟩⟩
    | go k =>
      obtain ⟨E2, e⟩ := hB
      rw [List.append_assoc, List.singleton_append] at e
      obtain ⟨hk, hn, -⟩ := c.ord.go e.symm
      obtain ⟨o, tmA', HA', v, H', r⟩ := c.rcd hk
      have hp := c.pre e.symm
      have hrun := r.run
      rw [hp, h1] at hrun
      cases hrun
      simp only [insE, r.op, Option.bind_some, r.go, Option.map_some, Option.some.injEq, Prod.mk.injEq] at hr
      obtain ⟨rfl, rfl⟩ := hr
      rcases goE_kind r.op (hc k (by simp)) r.go with ⟨-, -, rfl⟩ | ⟨hw, hf, blk, rfl, -⟩ | ⟨-, -, rfl, -⟩
      · exact ⟨i1, fun b x h => (i2 b x h).imp id fun ⟨f, h1, h2⟩ => ⟨f, by simp [h1], h2⟩⟩
      · refine ⟨by rw [put_next]; exact i1, fun b x h => ?_⟩
        rw [AH.get_put] at h
        split at h
        · rename_i hbk
          simp only [Option.some.injEq] at h
          subst h
          exact .inr ⟨k, by simp, hbk, hf, o, tm1, H1, v, _, r, hw, rfl⟩
        · exact (i2 b x h).imp id fun ⟨f, h1, h2⟩ => ⟨f, by simp [h1], h2⟩
      · exact ⟨i1, fun b x h => (i2 b x h).imp id fun ⟨f, h1, h2⟩ => ⟨f, by simp [h1], h2⟩⟩

end rc
end Go.Ab
