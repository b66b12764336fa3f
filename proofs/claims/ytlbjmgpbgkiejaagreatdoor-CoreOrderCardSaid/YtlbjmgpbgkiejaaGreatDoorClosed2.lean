/- A closed run, known in every heap in which both laid variables are as they were laid: a type's handle, a table. -/
import Derived.Test.YtlbjmgpbgkiejaaGreatDoorEv3
namespace Go.Ab
noncomputable section
variable {P : Program}

/-- The table's block. -/
def tabA (ob1 : Obj) (tab : List AV) : ABlk := .ro ob1 fun i => nthO tab i
def rowIs (f : Nat → Option AV) (tab : List AV) : Nat → Bool :=
  @List.rec AV (fun _ => Nat → Bool) (fun _ => true) (fun x _ ih i => br (@Option.rec AV (fun _ => Bool) false (fun y => AV.beq y x) (f i)) (ih (Nat.succ i)) false) tab
def isTab (tab : List AV) (x : Option ABlk) : Bool := match x with
  | some (.ro _ f) => rowIs f tab 0
  | _ => false
theorem rowIs_get {f : Nat → Option AV} : ∀ {tab : List AV} {k : Nat}, rowIs f tab k = true → ∀ i x, tab[i]? = some x → f (k + i) = some x
  | [], _, _, i, x, h => by simp at h
  | y :: tab, k, h, i, x, hx => by
    have h : br (@Option.rec AV (fun _ => Bool) false (fun z => AV.beq z y) (f k)) (rowIs f tab (k + 1)) false = true := h
    rw [br_eq] at h
    split at h
    · rename_i q
      cases i with
      | zero =>
        simp at hx; subst hx
        cases hf : f k with
        | none => rw [hf] at q; cases q
        | some z =>
          rw [hf] at q
          have q : AV.beq z y = true := q
          rw [AV.beq_eq _ _ q]
      | succ i =>
        simp at hx
        rw [← rowIs_get h i x hx]; congr 1; omega
    · cases h
theorem rowIs_of {f : Nat → Option AV} : ∀ {tab : List AV} {k : Nat}, (∀ x ∈ tab, AV.beq x x = true) → (∀ i x, tab[i]? = some x → f (k + i) = some x) → rowIs f tab k = true
  | [], _, _, _ => rfl
  | y :: tab, k, hb, h => by
    show br (@Option.rec AV (fun _ => Bool) false (fun z => AV.beq z y) (f k)) (rowIs f tab (k + 1)) false = true
    rw [show f k = some y from h 0 y rfl]
    show br (AV.beq y y) _ _ = true
    rw [hb y (by simp), br_true]
    exact rowIs_of (fun x hx => hb x (by simp [hx])) fun i x hx => by
      have := h (i + 1) x (by simpa using hx)
      rw [← this]; congr 1; omega
theorem isTab_eq {tab : List AV} {x : Option ABlk} (hx : isTab tab x = true) : ∃ ob' f, x = some (.ro ob' f) ∧ ∀ i y, tab[i]? = some y → f i = some y := by
  unfold isTab at hx
  split at hx
  · rename_i ob' f
    exact ⟨ob', f, rfl, fun i y hy => by have := rowIs_get hx i y hy; rwa [Nat.zero_add] at this⟩
  · cases hx
def AH.start2 (n : Nat) (x y : ABlk) : AH := ⟨(Tr.leaf.put 0 (some x)).put 1 (some y), n⟩
theorem get_start2 (n : Nat) (x y : ABlk) (b : Nat) : (AH.start2 n x y).get b = if b = 1 then some y else if b = 0 then some x else none := by
  show (Tr.put (Tr.put Tr.leaf 0 (some x)) 1 (some y)).get b = _
  rw [Tr.get_put, Tr.get_put]; rfl
/-- What it comes to, and what the variables' blocks are then. -/
def closedR2 (r : Option (AV × AH)) : Option (Bool × Option ABlk × Option ABlk) :=
  @Option.rec (AV × AH) (fun _ => Option (Bool × Option ABlk × Option ABlk)) none (fun p => some (boolIs true p.1, p.2.get 0, p.2.get 1)) r
def closedA2 (rt G h : Nat) (tab : List AV) (args : List AV) (H : AH) : Option (AV × AH) := match args with
  | [] => br (isLaid rt G h (H.get 0)) (br (isTab tab (H.get 1)) (some (.bool true, H)) none) none
  | _ => none

/-- A world as these two blocks alone. -/
theorem real_two {ρ : Env} {H : AH} {w : World} (hr : Real P ρ H w) {rt h : Nat} {tab : List AV} {ob0 ob1 : Obj} {f0 f1 : Nat → Option AV} (h0 : H.get 0 = some (.ro ob0 f0)) (h1 : H.get 1 = some (.ro ob1 f1)) (hf0 : f0 0 = some (laidV rt P.globals.size h))
    (hf1 : ∀ i y, tab[i]? = some y → f1 i = some y) (htab : ∀ y ∈ tab, ∀ ρ' v, Rel ρ y v → Rel ρ' y v) (hG : 1 < P.globals.size) :
    Real P (fun b => if b < P.globals.size + 1 then ρ b else none) (AH.start2 (P.globals.size + 1) (laidA ob0 rt P.globals.size h) (tabA ob1 tab)) w := by
  obtain ⟨ρ0, hρ⟩ : ∃ ρ0 : Env, ρ0 = fun b => if b < P.globals.size + 1 then ρ b else none := ⟨_, rfl⟩
  rw [← hρ]
  have e0 : ∀ b, b < P.globals.size + 1 → ρ0 b = ρ b := fun b hb => by rw [hρ]; exact if_pos hb
  obtain ⟨l0, c0, t0, r0, a1, a2, a3, a4⟩ := hr.lies 0 _ h0
  obtain ⟨l1, c1, t1, r1, b1, b2, b3, b4⟩ := hr.lies 1 _ h1
  refine ⟨fun b x hx => ?_, fun b b' l l' q1 q2 k1 k2 e => ?_, fun b hb => by rw [hρ]; exact if_neg (by have : P.globals.size + 1 ≤ b := hb; omega), fun g hg => (e0 g hg).trans (hr.glob' g hg)⟩
  · rw [get_start2] at hx
    split at hx
    · rename_i e
      subst e; cases hx
      refine ⟨l1, c1, t1, r1, (e0 1 (by omega)).trans b1, b2, b3, fun i x hx => ?_⟩
      have hx : nthO tab i = some x := hx
      rw [nthO_eq] at hx
      obtain ⟨q1, v, q2, q3⟩ := b4 i x (hf1 i x hx)
      exact ⟨q1, v, q2, htab x (List.mem_of_getElem? hx) _ _ q3⟩
    · split at hx
      · rename_i e
        subst e; cases hx
        refine ⟨l0, c0, t0, r0, (e0 0 (by omega)).trans a1, a2, a3, fun i x hx => ?_⟩
        rw [br_some_none] at hx
        obtain ⟨hi, hx⟩ := hx
        obtain rfl := Nat.eq_of_beq_eq_true hi
        cases hx
        obtain ⟨q1, v, q2, q3⟩ := a4 0 _ hf0
        refine ⟨rfl, v, q2, ?_⟩
        obtain ⟨y, rfl, cs, rfl, y2, ys, rfl, ⟨m, q4, q5⟩, r2⟩ := q3
        exact ⟨_, rfl, _, rfl, y2, ys, rfl, ⟨m, (e0 _ (by omega)).trans q4, q5⟩, r2⟩
      · cases hx
  · have key : ∀ b, (AH.start2 (P.globals.size + 1) (laidA ob0 rt P.globals.size h) (tabA ob1 tab)).get b ≠ none → b = 0 ∨ b = 1 := fun b hb => by
      rw [get_start2] at hb
      split at hb
      · exact .inr (by assumption)
      · split at hb
        · exact .inl (by assumption)
        · exact absurd rfl hb
    have hb : b < P.globals.size + 1 := by rcases key b q1 with rfl | rfl <;> omega
    have hb' : b' < P.globals.size + 1 := by rcases key b' q2 with rfl | rfl <;> omega
    rw [e0 b hb] at k1
    rw [e0 b' hb'] at k2
    refine hr.inj b b' l l' ?_ ?_ k1 k2 e
    · rcases key b q1 with rfl | rfl
      · rw [h0]; simp
      · rw [h1]; simp
    · rcases key b' q2 with rfl | rfl
      · rw [h0]; simp
      · rw [h1]; simp
theorem closed_at2 {prim : PrimF} (hp : PrimOk P prim) (hm : P.follows .mixedOrders = true) (hreg : progOk P = true) {n : Nat} {f : FuncId} {rt h : Nat} {tab : List AV} (hb : hasBody P f = true) (hG : 1 < P.globals.size) (htab : ∀ y ∈ tab, ∀ ρ ρ' v, Rel ρ y v → Rel ρ' y v)
    (he : ∀ ob0 ob1 : Obj, closedR2 (evCall P prim n f [] (AH.start2 (P.globals.size + 1) (laidA ob0 rt P.globals.size h) (tabA ob1 tab))) = some (true, some (laidA ob0 rt P.globals.size h), some (tabA ob1 tab))) : PrimAt P f (closedA2 rt P.globals.size h tab) := by
  intro args args' ρ H w v H' hg hr ha
  refine ⟨fun _ m => ?_, fun q => (by rw [hb] at q; cases q)⟩
  unfold closedA2 at hg
  split at hg
  case h_2 => cases hg
  rw [br_some_none, br_some_none] at hg
  obtain ⟨hl0, ht0, hg⟩ := hg
  cases hg
  obtain ⟨ob0, f0, h0, hf0⟩ := isLaid_eq hl0
  obtain ⟨ob1, f1, h1, hf1⟩ := isTab_eq ht0
  have hargs : args' = #[] := by
    have := ha.length
    apply Array.ext'
    exact List.eq_nil_of_length_eq_zero (by simpa using this)
  subst hargs
  have r0 := real_two (tab := tab) hr h0 h1 hf0 hf1 (fun y hy ρ' v q => htab y hy _ _ _ q) hG
  generalize hρ : (fun b => if b < P.globals.size + 1 then ρ b else none : Env) = ρ0 at r0
  have e0 : ∀ b, b < P.globals.size + 1 → ρ0 b = ρ b := fun b hb => by rw [← hρ]; exact if_pos hb
  obtain ⟨l0, c0, t0, p0, a1, a2, a3, a4⟩ := hr.lies 0 _ h0
  obtain ⟨l1, c1, t1, p1, b1, b2, b3, b4⟩ := hr.lies 1 _ h1
  have he := he ob0 ob1
  cases hev : evCall P prim n f [] (AH.start2 (P.globals.size + 1) (laidA ob0 rt P.globals.size h) (tabA ob1 tab)) with
  | none => rw [hev] at he; cases he
  | some r =>
    obtain ⟨v1, H1⟩ := r
    rw [hev] at he
    have he : some (boolIs true v1, H1.get 0, H1.get 1) = some (true, some (laidA ob0 rt P.globals.size h), some (tabA ob1 tab)) := he
    simp only [Option.some.injEq, Prod.mk.injEq] at he
    obtain ⟨hv1, k0, k1⟩ := he
    have hv1 : v1 = .bool true := by
      cases v1 <;> first | (cases hv1; done) | skip
      rename_i b; cases b
      · cases hv1
      · rfl
    subst hv1
    have hc := ((ev_ok hp hm (progOk_regs hreg) n).call hev r0 (show RelL ρ0 [] #[].toList from rfl)).1 hb m
    refine hc.mono fun e' w' hret => ?_
    unfold Ret at hret ⊢
    cases e' with
    | returned v' =>
      obtain ⟨ρ', q1, g⟩ := hret
      refine ⟨ρ, q1, ?_⟩
      have keep : ∀ B, B < w.heap.size → B ≠ l0.blk → B ≠ l1.blk → w'.heap[B]? = w.heap[B]? := fun B hB hn hn1 => g.ev.keep B hB fun b l hb hl => by
        rw [get_start2] at hb
        split at hb
        · rename_i e
          rw [e, e0 1 (by omega), b1] at hl; cases hl
          exact fun q => hn1 q.symm
        · split at hb
          · rename_i e
            rw [e, e0 0 (by omega), a1] at hl; cases hl
            exact fun q => hn q.symm
          · exact absurd rfl hb
      refine ⟨⟨fun b x hx => ?_, hr.inj, hr.fresh, hr.glob'⟩, ⟨.refl ρ, Nat.le_refl _, g.ev.size, fun b l q1 q2 _ => ⟨b, l, q1, q2, rfl⟩, fun B hB hn => keep B hB (fun q => hn 0 l0 (by rw [h0]; simp) a1 q.symm) (fun q => hn 1 l1 (by rw [h1]; simp) b1 q.symm), g.ev.os, g.ev.tape, g.ev.output, fun _ _ q _ => q⟩⟩
      by_cases hb0 : b = 0
      · subst hb0
        rw [h0] at hx; cases hx
        obtain ⟨l2, _, _, _, s1, s2, _⟩ := g.real.lies 0 _ k0
        have : l2 = l0 := by
          have := g.ev.le _ _ ((e0 0 (by omega)).trans a1)
          rw [s1] at this; exact Option.some.inj this
        subst this
        exact ⟨l2, c0, t0, p0, a1, s2, a3, a4⟩
      · by_cases hb1 : b = 1
        · subst hb1
          rw [h1] at hx; cases hx
          obtain ⟨l2, _, _, _, s1, s2, _⟩ := g.real.lies 1 _ k1
          have : l2 = l1 := by
            have := g.ev.le _ _ ((e0 1 (by omega)).trans b1)
            rw [s1] at this; exact Option.some.inj this
          subst this
          exact ⟨l2, c1, t1, p1, b1, s2, b3, b4⟩
        · refine (hr.lies b x hx).mono (.refl ρ) fun l hl => keep _ (hr.inb (by rw [hx]; simp) hl) (fun q => hb0 ?_) fun q => hb1 ?_
          · exact hr.inj b 0 l l0 (by rw [hx]; simp) (by rw [h0]; simp) hl a1 q
          · exact hr.inj b 1 l l1 (by rw [hx]; simp) (by rw [h1]; simp) hl b1 q
    | _ => exact hret.elim
end
end Go.Ab
