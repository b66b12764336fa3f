/- A drawn region: what is known of its order, and what a step leaves of a larger heap. -/
import Derived.Test.YtoafnnphjbdedaaGreatDoorAbP
namespace Go.Ab
variable {P : Program}

/-! Heaps in heaps. -/
theorem Real.sub {ρ : Env} {H1 Hp : AH} {w : World} (h : Real P ρ H1 w) (hs : ∀ b x, Hp.get b = some x → H1.get b = some x) (hn : H1.next ≤ Hp.next) : Real P ρ Hp w := by
  have ne : ∀ b, Hp.get b ≠ none → H1.get b ≠ none := fun b hb => by
    obtain ⟨x, hx⟩ := Option.ne_none_iff_exists'.1 hb
    rw [hs b x hx]; simp
  exact ⟨fun b x hx => h.lies b x (hs b x hx), fun b b' l l' h1 h2 => h.inj b b' l l' (ne b h1) (ne b' h2), fun b hb => h.fresh b (by omega), h.glob'⟩

theorem Real.frame {ρ ρ' : Env} {H1 Hp G H2 : AH} {w w' : World} (h1 : Real P ρ H1 w) (hn : Hp.next = H1.next) (hs : ∀ b x, Hp.get b = some x → H1.get b = some x) (g : Good none P ρ Hp w ρ' G w')
    (hG : ∀ b x, H2.get b = some x → G.get b = some x ∨ (Hp.get b = none ∧ H1.get b = some x)) (hnext : H2.next = G.next) : Good none P ρ H1 w ρ' H2 w' := by
  have neP : ∀ b, Hp.get b ≠ none → H1.get b ≠ none := fun b hb => by
    obtain ⟨x, hx⟩ := Option.ne_none_iff_exists'.1 hb
    rw [hs b x hx]; simp
  have cases2 : ∀ b, H2.get b ≠ none → G.get b ≠ none ∨ (Hp.get b = none ∧ H1.get b ≠ none) := fun b hb => by
    obtain ⟨x, hx⟩ := Option.ne_none_iff_exists'.1 hb
    rcases hG b x hx with h | ⟨h, h'⟩
    · left; rw [h]; simp
    · right; exact ⟨h, by rw [h']; simp⟩
  have loc1 : ∀ b, H1.get b ≠ none → ∃ l, ρ b = some l := fun b hb => by
    obtain ⟨x, hx⟩ := Option.ne_none_iff_exists'.1 hb
    exact (h1.lies b x hx).loc
  -- a block of the step's and one that it did not know are two
  have two : ∀ b b' l l', G.get b ≠ none → Hp.get b' = none → H1.get b' ≠ none → ρ' b = some l → ρ b' = some l' → l.blk ≠ l'.blk := by
    intro b b' l l' hb hb1 hb2 hl hl' e
    have hlt : l.blk < w.heap.size := by rw [e]; exact h1.inb hb2 hl'
    obtain ⟨b0, l0, q1, q2, q3⟩ := g.ev.own b l hb hl hlt
    have := h1.inj b0 b' l0 l' (neP b0 q1) hb2 q2 hl' (by rw [q3, e])
    subst this
    exact q1 hb1
  refine ⟨⟨fun b x hb => ?_, fun b b' l l' hb hb' hl hl' e => ?_, fun b hb => g.real.fresh b (by rw [← hnext]; exact hb), g.real.glob'⟩, ?_⟩
  · rcases hG b x hb with h | ⟨h, h'⟩
    · exact g.real.lies b x h
    · refine (h1.lies b x h').mono g.ev.le fun l hl => g.ev.keep l.blk (h1.inb (by rw [h']; simp) hl) fun b0 l0 q1 q2 q3 => ?_
      have := h1.inj b0 b l0 l (neP b0 q1) (by rw [h']; simp) q2 hl q3
      subst this
      exact q1 h
  · rcases cases2 b hb with h | ⟨h, h'⟩ <;> rcases cases2 b' hb' with k | ⟨k, k'⟩
    · exact g.real.inj b b' l l' h k hl hl' e
    · obtain ⟨m, hm⟩ := loc1 b' k'
      have : l' = m := by have := g.ev.le _ _ hm; rw [hl'] at this; exact Option.some.inj this
      subst this
      exact absurd e (two b b' l l' h k k' hl hm)
    · obtain ⟨m, hm⟩ := loc1 b h'
      have : l = m := by have := g.ev.le _ _ hm; rw [hl] at this; exact Option.some.inj this
      subst this
      exact absurd e.symm (two b' b l' l k h h' hl' hm)
    · obtain ⟨m, hm⟩ := loc1 b h'
      obtain ⟨m', hm'⟩ := loc1 b' k'
      have e1 : l = m := by have := g.ev.le _ _ hm; rw [hl] at this; exact Option.some.inj this
      have e2 : l' = m' := by have := g.ev.le _ _ hm'; rw [hl'] at this; exact Option.some.inj this
      subst e1 e2
      exact h1.inj b b' l l' h' k' hm hm' e
  · refine ⟨g.ev.le, by rw [hnext, ← hn]; exact g.ev.next, g.ev.size, fun b l hb hl hlt => ?_, fun B hB hno => g.ev.keep B hB fun b l q1 q2 => hno b l (neP b q1) q2, g.ev.os, g.ev.tape, g.ev.output, fun b q1 q2 q3 => g.ev.ids b (by rw [hn]; exact q1) q2 q3⟩
    rcases cases2 b hb with h | ⟨h, h'⟩
    · obtain ⟨b0, l0, q1, q2, q3⟩ := g.ev.own b l h hl hlt
      exact ⟨b0, l0, neP b0 q1, q2, q3⟩
    · obtain ⟨m, hm⟩ := loc1 b h'
      have e1 : l = m := by have := g.ev.le _ _ hm; rw [hl] at this; exact Option.some.inj this
      subst e1
      exact ⟨b, l, h', hm, rfl⟩

/-- The last heap, seen smaller. -/
theorem Good.sub {ρ ρ' : Env} {H H1 Hp : AH} {w w' : World} {k : Option Nat} (g : Good k P ρ H w ρ' H1 w') (hs : ∀ b x, Hp.get b = some x → H1.get b = some x) (hn : H1.next = Hp.next) : Good k P ρ H w ρ' Hp w' := by
  refine ⟨g.real.sub hs (by omega), g.ev.le, by rw [← hn]; exact g.ev.next, g.ev.size, fun b l hb hl hlt => ?_, g.ev.keep, g.ev.os, g.ev.tape, g.ev.output, g.ev.ids⟩
  obtain ⟨x, hx⟩ := Option.ne_none_iff_exists'.1 hb
  exact g.ev.own b l (by rw [hs b x hx]; simp) hl hlt

/-- A step at a kept place, behind one that began below it. -/
theorem Good.transAt {ρ ρ' ρ'' : Env} {H H' H'' : AH} {w w' w'' : World} {id : Nat} (h : Good none P ρ H w ρ' H' w') (k : Good (some id) P ρ' H' w' ρ'' H'' w'') (hid : H.next ≤ id) : Good none P ρ H w ρ'' H'' w'' := by
  have t := (⟨h.real, h.ev.le, h.ev.next, h.ev.size, h.ev.own, h.ev.keep, h.ev.os, h.ev.tape, h.ev.output, fun b h1 h2 h3 => h.ev.ids b h1 h2 (by simp)⟩ : Good (some id) P ρ H w ρ' H' w').trans k
  exact ⟨t.real, t.ev.le, t.ev.next, t.ev.size, t.ev.own, t.ev.keep, t.ev.os, t.ev.tape, t.ev.output, fun b h1 h2 _ => t.ev.ids b h1 h2 (by simp; omega)⟩

/-! What comes before. -/
theorem foldl_push_size {α β : Type} (f : Array β → α → β) : ∀ (l : List α) (acc : Array β), (l.foldl (fun acc o => acc.push (f acc o)) acc).size = acc.size + l.length
  | [], acc => by simp
  | o :: l, acc => by simp [foldl_push_size f l]; omega
theorem foldl_push_old {α β : Type} (f : Array β → α → β) : ∀ (l : List α) (acc : Array β) (i : Nat), i < acc.size → (l.foldl (fun acc o => acc.push (f acc o)) acc)[i]? = acc[i]?
  | [], acc, i, h => rfl
  | o :: l, acc, i, h => by
    rw [List.foldl_cons, foldl_push_old f l _ i (by simp; omega), Array.getElem?_push, if_neg (by omega)]

/-- Entry i of what a fold pushes: worked out from the entries before it. -/
theorem foldl_push_get {α : Type} (f : Array Nat → α → Nat) : ∀ (l : List α) (acc : Array Nat) (j : Nat) (o : α), l[j]? = some o →
    ∃ acc' : Array Nat, acc'.size = acc.size + j ∧ (∀ i, i < acc'.size → acc'[i]? = (l.foldl (fun acc o => acc.push (f acc o)) acc)[i]?) ∧ (l.foldl (fun acc o => acc.push (f acc o)) acc)[acc.size + j]? = some (f acc' o)
  | [], acc, j, o, h => by simp at h
  | x :: l, acc, 0, o, h => by
    simp only [List.getElem?_cons_zero, Option.some.injEq] at h
    subst h
    refine ⟨acc, rfl, fun i hi => ?_, ?_⟩
    · rw [foldl_push_old f (x :: l) acc i hi]
    · rw [List.foldl_cons, foldl_push_old f l _ _ (by simp), Array.getElem?_push, if_pos (by simp)]
  | x :: l, acc, j + 1, o, h => by
    obtain ⟨acc', h1, h2, h3⟩ := foldl_push_get f l (acc.push (f acc x)) j o (by simpa using h)
    refine ⟨acc', by rw [h1]; simp; omega, h2, ?_⟩
    rw [List.foldl_cons]
    have : acc.size + (j + 1) = (acc.push (f acc x)).size + j := by simp; omega
    rw [this]; exact h3

theorem foldl_or {α : Type} (g : α → Bool) (m : α → Nat) : ∀ (l : List α) (s k : Nat), (l.foldl (fun s e => if g e then s ||| m e else s) s).testBit k = true ↔ s.testBit k = true ∨ ∃ e ∈ l, g e = true ∧ (m e).testBit k = true
  | [], s, k => by simp
  | e :: l, s, k => by
    rw [List.foldl_cons, foldl_or g m l]
    by_cases hg : g e = true
    · simp [hg, or_assoc]
    · simp [hg]

theorem before_spec (ops : Array Oper) {i : Nat} {o : Oper} (hi : ops[i]? = some o) (k : Nat) :
    (bfAt (Region.before ops) i).testBit k = true ↔ ∃ e ∈ o.after.toList, Region.binds .any e = true ∧ (k = e.on ∨ (e.on < i ∧ (bfAt (Region.before ops) e.on).testBit k = true)) := by
  have e0 : Region.before ops = ops.toList.foldl (fun acc o => acc.push (o.after.foldl (fun s e => if Region.binds .any e then s ||| 2 ^ e.on ||| acc.getD e.on 0 else s) 0)) #[] := by
    unfold Region.before
    rw [← Array.foldl_toList]
  obtain ⟨acc', h1, h2, h3⟩ := foldl_push_get (fun (acc : Array Nat) (o : Oper) => o.after.foldl (fun s e => if Region.binds .any e then s ||| 2 ^ e.on ||| acc.getD e.on 0 else s) 0) ops.toList #[] i o (by simpa using hi)
  rw [← e0] at h2 h3
  simp only [Array.size_empty, Nat.zero_add] at h1 h3
  have hb : bfAt (Region.before ops) i = o.after.foldl (fun s e => if Region.binds .any e then s ||| 2 ^ e.on ||| acc'.getD e.on 0 else s) 0 := by
    simp only [bfAt, Array.getD_eq_getD_getElem?, h3, Option.getD_some]
  rw [hb, ← Array.foldl_toList]
  have hf : (fun (s : Nat) (e : Edge) => if Region.binds .any e then s ||| 2 ^ e.on ||| acc'.getD e.on 0 else s) = fun s e => if Region.binds .any e then s ||| (2 ^ e.on ||| acc'.getD e.on 0) else s := by
    funext s e; rw [Nat.or_assoc]
  rw [hf, foldl_or (fun e => Region.binds .any e) (fun e => 2 ^ e.on ||| acc'.getD e.on 0)]
  simp only [Nat.zero_testBit, Bool.false_eq_true, false_or, Nat.testBit_or, Nat.testBit_two_pow, Bool.or_eq_true, decide_eq_true_eq]
  constructor
  · rintro ⟨e, he, hbd, hk⟩
    refine ⟨e, he, hbd, hk.imp Eq.symm fun hk => ?_⟩
    by_cases hlt : e.on < i
    · refine ⟨hlt, ?_⟩
      have := h2 e.on (by omega)
      simpa [bfAt, Array.getD_eq_getD_getElem?, ← this] using hk
    · have : acc'[e.on]? = none := by rw [Array.getElem?_eq_none_iff]; omega
      simp [Array.getD_eq_getD_getElem?, this] at hk
  · rintro ⟨e, he, hbd, hk⟩
    refine ⟨e, he, hbd, hk.imp Eq.symm fun ⟨hlt, hk⟩ => ?_⟩
    have := h2 e.on (by omega)
    simpa [bfAt, Array.getD_eq_getD_getElem?, ← this] using hk

end Go.Ab
