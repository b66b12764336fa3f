/- Code, evaluated. -/
import Derived.Test.YtoafnnphjbdedaaGreatDoorAbV
namespace Go.Ab
variable {P : Program}

theorem progOk_regs (h : progOk P = true) : ∀ c, InProg P c → regsOk P c = true := by
  intro c hc
  induction hc with
  | body hf hb =>
    rename_i f fn c
    unfold progOk at h
    rw [allB_eq, List.all_eq_true] at h
    have := h fn (by rw [Array.mem_toList_iff]; exact Array.mem_of_getElem? hf)
    rw [hb] at this
    exact this
  | seqL _ ih => simp only [regsOk, Bool.and_eq_true] at ih; exact ih.1
  | seqR _ ih => simp only [regsOk, Bool.and_eq_true] at ih; exact ih.2
  | condL _ ih => simp only [regsOk, Bool.and_eq_true] at ih; exact ih.1
  | condR _ ih => simp only [regsOk, Bool.and_eq_true] at ih; exact ih.2
  | block _ ih => simp only [regsOk] at ih; exact ih
  | loop _ ih => simp only [regsOk] at ih; exact ih
  | rangeL _ ih => simp only [regsOk, Bool.and_eq_true] at ih; exact ih.1
  | rangeR _ ih => simp only [regsOk, Bool.and_eq_true] at ih; exact ih.2

/-- The marks among an activation's deferred calls. -/
def MarksR (ρ : Env) : List Nat → List Deferred → Prop
  | [], ds => ds = []
  | d :: mk, ds => ∃ l r, ρ d = some l ∧ ds = { target := .collected l.blk, args := #[] } :: r ∧ MarksR ρ mk r
theorem MarksR.mono {ρ ρ' : Env} (h : Le ρ ρ') : ∀ {mk : List Nat} {ds : List Deferred}, MarksR ρ mk ds → MarksR ρ' mk ds
  | [], _, e => e
  | _ :: _, _, ⟨l, r, h1, h2, h3⟩ => ⟨l, r, h _ _ h1, h2, MarksR.mono h h3⟩

def exOf : Ex → Exit
  | .normal => .normal
  | .exit id => .exit id
  | .ret => .ret

theorem next_ok {r : Rs} {k : TM0 → AH → List Nat → Rs} {e : Ex} {tm : TM0} {H : AH} {mk : List Nat} (h : r.next k = .ok e tm H mk) :
    (∃ tm1 H1 mk1, r = .ok .normal tm1 H1 mk1 ∧ k tm1 H1 mk1 = .ok e tm H mk) ∨ (r = .ok e tm H mk ∧ e ≠ .normal) := by
  cases r with
  | fail => cases h
  | ok e1 tm1 H1 mk1 =>
    cases e1 with
    | normal => exact .inl ⟨_, _, _, rfl, h⟩
    | exit id =>
      have h : Rs.ok (.exit id) tm1 H1 mk1 = .ok e tm H mk := h
      cases h
      exact .inr ⟨rfl, by simp⟩
    | ret =>
      have h : Rs.ok .ret tm1 H1 mk1 = .ok e tm H mk := h
      cases h
      exact .inr ⟨rfl, by simp⟩

theorem then_not {K : Act → World → Prop} {Q : Exit → Act → World → Prop} {e : Ex} (he : e ≠ .normal) {a : Act} {w : World} (h : Q (exOf e) a w) : Exit.then K Q (exOf e) a w := by
  cases e with
  | normal => exact absurd rfl he
  | exit id => exact h
  | ret => exact h

theorem run_getLoop {w : World} {q : Nat} {r : Loop} (h : w.heap[q]? = some (.loop r)) : (Instr.getLoop q).run P w = .ok r w := by
  simp [Instr.getLoop, getObj, Sem.run, h]

/-- A record of a loop that is written over. -/
theorem Real.setLoop {ρ : Env} {H : AH} {w : World} (h : Real P ρ H w) {b : Nat} {l : Loc} {x y : ABlk} (hb : H.get b = some x) (hl : ρ b = some l) {r r' : Loop} (hr : w.heap[l.blk]? = some (.loop r))
    (hy : ∀ w' : World, w'.heap[l.blk]? = some (.loop r') → Lies P ρ w' b y) : ∃ w', (setObj l.blk (.loop r')).run P w = .ok () w' ∧ Good none P ρ H w ρ (H.put b (some y)) w' := by
  have hlt : l.blk < w.heap.size := (Array.getElem?_eq_some_iff.1 hr).1
  refine ⟨{ w with heap := w.heap.setIfInBounds l.blk (.loop r') }, by simp [setObj, Sem.run, hr], ?_⟩
  refine h.change (by rw [hb]; simp) hl (by simp) (fun k hk => ?_) (hy _ ?_) rfl rfl rfl
  · simp [Array.getElem?_setIfInBounds_ne (Ne.symm hk)]
  · simp [hlt]

section code
variable {cx : Cx} {ro : Option Nat} {n N : Nat}

/-- What the evaluation of a code says of it. -/
def CodeOk (P : Program) (cx : Cx) (ro : Option Nat) (n N : Nat) (c : Code) : Prop :=
  ∀ {ρ : Env} {H : AH} {w : World} {tm : TM0} {a : Act} {mk : List Nat} {e : Ex} {tm' : TM0} {H' : AH} {mk' : List Nat} {Q : Exit → Act → World → Prop}, (codeB P c).val cx tm H mk = .ok e tm' H' mk' → Real P ρ H w → TmRel ρ N tm a.tmps → MarksR ρ mk a.defers →
    (∀ ρ' a' w', Good none P ρ H w ρ' H' w' → TmRel ρ' N tm' a'.tmps → MarksR ρ' mk' a'.defers → Q (exOf e) a' w') → c.wpIn (Fr ro) n P Q a w

theorem least {p : Nat → Prop} (h : ∃ k, p k) : ∃ k, p k ∧ ∀ j, p j → k ≤ j := by
  obtain ⟨k, hk⟩ := h
  induction k using Nat.strongRecOn with
  | _ k ih =>
    by_cases hq : ∃ j, j < k ∧ p j
    · obtain ⟨j, h1, h2⟩ := hq
      exact ih j h1 h2
    · exact ⟨k, hk, fun j hj => Nat.le_of_not_lt fun hlt => hq ⟨j, hlt, hj⟩⟩

theorem code_loop {b : Code} (ih : CodeOk P cx ro n N b) : CodeOk P cx ro n N (.loop b) := by
  intro ρ H w tm a mk e tm' H' mk' Q he hr ht hm hQ
  have he : loopN ((codeB P b).val cx) cx.k tm H mk = .ok e tm' H' mk' := he
  -- how many rounds are left
  let J : Nat → Act → World → Prop := fun k a1 w1 => ∃ ρ1 H1 tm1 mk1, Good none P ρ H w ρ1 H1 w1 ∧ TmRel ρ1 N tm1 a1.tmps ∧ MarksR ρ1 mk1 a1.defers ∧ loopN ((codeB P b).val cx) k tm1 H1 mk1 = .ok e tm' H' mk'
  classical
  let μ : Act → World → Nat := fun a1 w1 => if h : ∃ k, J k a1 w1 then (least h).choose else 0
  refine wpIn_loop (fun a1 w1 => ∃ k, J k a1 w1) μ ⟨cx.k, ρ, H, tm, mk, hr.good, ht, hm, he⟩ fun a1 w1 hI => ?_
  have hμ : μ a1 w1 = (least hI).choose := dif_pos hI
  rw [hμ]
  obtain ⟨ρ1, H1, tm1, mk1, g1, t1, m1, e1⟩ := (least hI).choose_spec.1
  cases hk : (least hI).choose with
  | zero => rw [hk] at e1; cases e1
  | succ k =>
    rw [hk] at e1
    have e1 : ((codeB P b).val cx tm1 H1 mk1).next (loopN ((codeB P b).val cx) k) = .ok e tm' H' mk' := e1
    rcases next_ok e1 with ⟨tm2, H2, mk2, h1, h2⟩ | ⟨h1, h2⟩
    · refine ih h1 g1.real t1 m1 fun ρ' a' w' g t m => ?_
      have hJ : ∃ k, J k a' w' := ⟨k, ρ', H2, tm2, mk2, g1.trans g, t, m, h2⟩
      refine ⟨hJ, ?_⟩
      have : μ a' w' = (least hJ).choose := dif_pos hJ
      rw [this]
      exact Nat.lt_succ_of_le ((least hJ).choose_spec.2 k ⟨ρ', H2, tm2, mk2, g1.trans g, t, m, h2⟩)
    · exact ih h1 g1.real t1 m1 fun ρ' a' w' g t m => then_not h2 (hQ ρ' a' w' (g1.trans g) t m)

theorem endRange_ok {l d : Nat} {tm : TM0} {mk : List Nat} {r : Option (AV × AH)} {e : Ex} {tm' : TM0} {H' : AH} {mk' : List Nat} (h : endRange l d tm mk r = .ok e tm' H' mk') :
    ∃ v h3 st pend fn' tm1 ps' a' b' d', r = some (v, h3) ∧ h3.get l = some (.loop st pend fn' tm1 ps' a' b' d') ∧ st ≠ .busy ∧ codeEx pend = some e ∧ H' = h3.put l (some (.loop .exhausted pend fn' tm1 ps' a' b' d')) ∧ tm' = tm ∧ mk' = d :: mk := by
  unfold endRange at h
  split at h
  · cases h
  · rename_i v h3
    split at h
    · rename_i st pend fn' tm1 ps' a' b' d' hg
      split at h
      · cases h
      · rename_i hst
        split at h
        · cases h
        · rename_i e1 he
          rw [AH.putTo_eq] at h
          cases h
          exact ⟨v, h3, st, pend, fn', tm1, ps', a', b', d', rfl, hg, hst, he, rfl, rfl, rfl⟩
    · cases h

theorem codeEx_some {pend : Option Code} {e : Ex} (h : codeEx pend = some e) : (pend = none ∧ e = .normal) ∨ (∃ id, pend = some (.exit id) ∧ e = .exit id) ∨ (pend = some .ret ∧ e = .ret) := by
  unfold codeEx at h
  split at h
  · cases h; exact .inl ⟨rfl, rfl⟩
  · cases h; exact .inr (.inl ⟨_, rfl, rfl⟩)
  · cases h; exact .inr (.inr ⟨rfl, rfl⟩)
  · cases h

theorem code_range (hcx : CxOk P cx.call cx.round) (hro : cx.around = none → ro = none) {g : Operand} {ps : Array Tmp} {asg body : Code} (hin : InProg P (.rangeFunc g ps asg body)) (hok : codeOk P N (.rangeFunc g ps asg body) = true) : CodeOk P cx ro n N (.rangeFunc g ps asg body) := by
  intro ρ H w tm a mk e tm' H' mk' Q he hr ht hm hQ
  simp only [codeOk, Bool.and_eq_true, allB_eq, List.all_eq_true] at hok
  obtain ⟨hg, hps, hca, hcb⟩ := hok
  have he : rangeF P ((opdB g).val tm) ps asg body cx tm H mk = .ok e tm' H' mk' := by
    have e1 : codeB P (.rangeFunc g ps asg body) = bx (opdB g) fun g => .mk fun cx tm h mk => rangeF P (g tm) ps asg body cx tm h mk := rfl
    rw [e1, bx_eq, val_mk] at he
    exact he
  rw [opdB_val] at he
  have rg : Rel ρ (opd tm g) (a.eval g) := opd_rel hr.glob (fun i _ => ht.rel i) hg
  unfold rangeF at he
  split at he
  · rename_i f first cap har hgv
    have hro := hro har
    subst hro
    rw [br_eq] at he
    split at he
    · rename_i hb
      simp only [newTo_eq] at he
      rw [hgv] at rg
      obtain ⟨fs, cs, hge, rf, rc⟩ := rg
      obtain ⟨v, h3, st, pend, fn', tm1, ps', a', b', d', hcall, hget, hst, hpe, rfl, rfl, rfl⟩ := endRange_ok he
      -- the block for the deferred calls
      have g1 : Good none P ρ H w (ρ.with (idOf H none) ⟨w.heap.size, 0, 0⟩) (newH H none .defd) { w with heap := w.heap.push (.deferred (some [])) } :=
        hr.new (at_ := none) trivial (by simp) (by simp) (fun k hk => heap_push_lt _ k hk) (Nat.le_refl _) ⟨_, with_same _ _, by show (w.heap.push _)[w.heap.size]? = _; simp⟩ rfl rfl rfl
      refine wpIn_rangeFunc fun fn _ => ?_
      -- the record
      have g2 := g1.real.new (at_ := none) (x := .loop .ready none cx.fn tm' ps asg body (idOf H none)) (l := ⟨w.heap.size + 1, 0, 0⟩)
        (w' := { w with heap := (w.heap.push (.deferred (some []))).push (.loop { state := .ready, pending := none, fn := fn, tmps := a.tmps, params := ps, assign := asg, body := body, defers := w.heap.size }) }) trivial (by simp) (by simp)
        (fun k hk => heap_push_lt (w := { w with heap := w.heap.push (.deferred (some [])) }) _ k hk) (by simp)
        ⟨_, ⟨w.heap.size, 0, 0⟩, a.tmps, N, fn, with_same _ _, by
            have hne : idOf H none ≠ idOf (newH H none .defd) none := by simp [idOf, newH, AH.newTo_none]
            simp only [Env.with, hne, if_false, if_true],
          by
            show ((w.heap.push (.deferred (some []))).push _)[w.heap.size + 1]? = _
            rw [show w.heap.size + 1 = (w.heap.push (Obj.deferred (some []))).size by simp]
            exact Array.getElem?_push_size,
          ht.mono (le_with (id_fresh hr (at_ := none) trivial) |>.trans (le_with (id_fresh g1.real (at_ := none) trivial))), .rangeL hin, .rangeR hin, hca, hcb, fun t hpt => by simpa using hps t (by simpa using hpt)⟩ rfl rfl rfl
      have g12 := g1.trans g2
      have hl2 := g12.ev.le
      have hc := hcx.call (args' := fs.toArray ++ #[.func (.yield (w.heap.size + 1)) #[] #[]] ++ cs.toArray) hcall g2.real (by
        simp only [Array.toList_append, List.append_assoc]
        refine (rf.mono hl2).append (RelL.append (ys := [_]) ?_ (rc.mono hl2))
        exact .cons ⟨_, with_same _ _, rfl⟩ rfl) |>.1 hb (n - 1)
      refine ⟨w.heap.size + 1, [{ target := .collected w.heap.size, args := #[] }], { w with heap := (w.heap.push (.deferred (some []))).push (.loop { state := .ready, pending := none, fn := fn, tmps := a.tmps, params := ps, assign := asg, body := body, defers := w.heap.size }) }, { target := .fn (.func f) cs.toArray, args := fs.toArray ++ #[.func (.yield (w.heap.size + 1)) #[] #[]] }, { w with heap := (w.heap.push (.deferred (some []))).push (.loop { state := .ready, pending := none, fn := fn, tmps := a.tmps, params := ps, assign := asg, body := body, defers := w.heap.size }) }, f, _, _, ?_, ?_, fun _ _ => trivial, ?_, fun hq => by simp [Fence.wide] at hq, CallsIn.mono (show CallsIn (Fr none) (n - 1) P f _ _ _ from hc) ?_⟩
      · show (Instr.enterLoop fn a.tmps ps asg body none).run P w = _
        simp [Instr.enterLoop]
        rfl
      · have e : a.eval (.const (.func (.yield (w.heap.size + 1)) #[] #[])) = .func (.yield (w.heap.size + 1)) #[] #[] := rfl
        simp [resolve, hge, Deferred.ofValue, e]
      · simp [invoke, call_run hb]
      · intro e2 w3 hR
        cases e2 with
        | panicked chain => exact hR.elim
        | outgrown => exact hR.elim
        | returned v' =>
          obtain ⟨ρ3, rv, g3⟩ := hR
          have hlr := g3.ev.le _ _ (with_same (ρ := ρ.with (idOf H none) ⟨w.heap.size, 0, 0⟩) (idOf (newH H none .defd) none) ⟨w.heap.size + 1, 0, 0⟩)
          obtain ⟨l, ld, tmps, n1, fn1, q1, q2, q3, q4, q5⟩ := g3.real.lies _ _ hget
          rw [hlr] at q1; cases q1
          obtain ⟨w4, s1, s2⟩ := g3.real.setLoop (y := .loop .exhausted pend fn' tm1 ps' a' b' d') (r' := { state := .exhausted, pending := pend, fn := fn1, tmps := tmps, params := ps', assign := a', body := b', defers := ld.blk }) hget hlr q3
            (fun w' hw' => ⟨_, ld, tmps, n1, fn1, hlr, q2, hw', q4, q5⟩)
          have hend : (Instr.endLoop (w.heap.size + 1)).run P w3 = .ok pend w4 := by
            have hb2 : (st == LoopState.busy) = false := by simpa using hst
            simp only [Instr.endLoop, Sem.run_bind, run_getLoop q3, Result.andThen_ok, hb2, Bool.false_eq_true, if_false, s1, Sem.run_pure]
          have gall := (g12.trans g3).trans s2
          have hQ' := hQ ρ3 { a with defers := [{ target := .collected w.heap.size, args := #[] }] ++ a.defers } w4 gall (ht.mono gall.ev.le) ⟨⟨w.heap.size, 0, 0⟩, a.defers, (g2.trans g3).ev.le _ _ (with_same _ _), rfl, hm.mono gall.ev.le⟩
          refine ⟨pend, w4, hend, ?_⟩
          rcases codeEx_some hpe with ⟨rfl, rfl⟩ | ⟨id, rfl, rfl⟩ | ⟨rfl, rfl⟩
          · exact hQ'
          · exact wpIn_exit hQ'
          · exact wpIn_ret hQ'
    · cases he
  · cases he

/-- Code, evaluated. -/
theorem code_wp (hcx : CxOk P cx.call cx.round) (hm : P.follows .mixedOrders = true) (hreg : ∀ c, InProg P c → regsOk P c = true) (hro : cx.around = none → ro = none) : ∀ c, InProg P c → codeOk P N c = true → CodeOk P cx ro n N c := by
  intro c
  induction c with
  | skip =>
    intro _ _ ρ H w tm a mk e tm' H' mk' Q he hr ht hmk hQ
    have he : Rs.ok .normal tm H mk = .ok e tm' H' mk' := he
    cases he
    exact wpIn_skip (hQ ρ a w hr.good ht hmk)
  | region id ops draw =>
    intro hin hok ρ H w tm a mk e tm' H' mk' Q he hr ht hmk hQ
    simp only [codeOk, allB_eq, List.all_eq_true] at hok
    have e1 : codeB P (.region id ops draw) = bx (regB P ops draw) fun f => .mk fun cx tm h mk =>
      @Option.rec (TM0 × AH) (fun _ => Rs) .fail (fun p => @Prod.rec TM0 AH (fun _ => Rs) (fun tm' h' => .ok .normal tm' h' mk) p) (f cx tm h) := rfl
    rw [e1, bx_eq, val_mk] at he
    cases hf : (regB P ops draw).val cx tm H with
    | none => rw [hf] at he; cases he
    | some p =>
      obtain ⟨tm1, H1⟩ := p
      rw [hf] at he
      have he : Rs.ok .normal tm1 H1 mk = .ok e tm' H' mk' := he
      cases he
      cases draw with
      | true =>
        have hrg := hreg _ hin
        simp only [regsOk, br_true] at hrg
        refine draw_wp hcx hm hrg hok hr ht hf fun ρ' a' w' g t d => hQ ρ' a' w' g t ?_
        rw [d]; exact hmk.mono g.ev.le
      | false =>
        refine wpIn_region ?_
        unfold regB at hf
        rw [br_false, bx_eq, val_mk] at hf
        have h0 := text_wp (ops := ops) (ro := ro) (n := n) hcx ops.toList 0 ρ H w tm a tm' H' (by simp) hok hr ht hf (Q := Q) fun ρ' a' w' g t d => hQ ρ' a' w' g t (by rw [d]; exact hmk.mono g.ev.le)
        rw [List.range_eq_range']
        exact h0
  | seq x y ihx ihy =>
    intro hin hok ρ H w tm a mk e tm' H' mk' Q he hr ht hmk hQ
    simp only [codeOk, Bool.and_eq_true] at hok
    have he : ((codeB P x).val cx tm H mk).next ((codeB P y).val cx) = .ok e tm' H' mk' := by
      have e1 : codeB P (.seq x y) = bx (codeB P x) fun a => bx (codeB P y) fun b => .mk fun cx tm h mk => (a cx tm h mk).next (b cx) := rfl
      rw [e1] at he
      simp only [bx_eq, val_mk] at he
      exact he
    refine wpIn_seq ?_
    rcases next_ok he with ⟨tm2, H2, mk2, h1, h2⟩ | ⟨h1, h2⟩
    · refine ihx hin.seqL hok.1 h1 hr ht hmk fun ρ' a' w' g t m => ?_
      exact ihy hin.seqR hok.2 h2 g.real t m fun ρ2 a2 w2 g2 t2 m2 => hQ ρ2 a2 w2 (g.trans g2) t2 m2
    · exact ihx hin.seqL hok.1 h1 hr ht hmk fun ρ' a' w' g t m => then_not h2 (hQ ρ' a' w' g t m)
  | cond x y z ihy ihz =>
    intro hin hok ρ H w tm a mk e tm' H' mk' Q he hr ht hmk hQ
    simp only [codeOk, Bool.and_eq_true] at hok
    obtain ⟨hx, hy, hz⟩ := hok
    have he : condOf (opd tm x) ((codeB P y).val cx tm H mk) ((codeB P z).val cx tm H mk) = .ok e tm' H' mk' := by
      have e1 : codeB P (.cond x y z) = bx (opdB x) fun c => bx (codeB P y) fun a => bx (codeB P z) fun b => .mk fun cx tm h mk => condOf (c tm) (a cx tm h mk) (b cx tm h mk) := rfl
      rw [e1] at he
      simp only [bx_eq, val_mk, opdB_val] at he
      exact he
    have rx : Rel ρ (opd tm x) (a.eval x) := opd_rel hr.glob (fun i _ => ht.rel i) hx
    unfold condOf at he
    split at he
    · rename_i b hb
      rw [hb] at rx
      refine wpIn_cond (rel_bool rx) ?_
      cases b with
      | true => exact ihy hin.condL hy he hr ht hmk hQ
      | false => exact ihz hin.condR hz he hr ht hmk hQ
    · cases he
  | block id b ih =>
    intro hin hok ρ H w tm a mk e tm' H' mk' Q he hr ht hmk hQ
    simp only [codeOk] at hok
    have he : blockOf id ((codeB P b).val cx tm H mk) = .ok e tm' H' mk' := by
      have e1 : codeB P (.block id b) = bx (codeB P b) fun b => .mk fun cx tm h mk => blockOf id (b cx tm h mk) := rfl
      rw [e1, bx_eq, val_mk] at he
      exact he
    refine wpIn_block ?_
    cases hb : (codeB P b).val cx tm H mk with
    | fail => rw [hb] at he; cases he
    | ok e1 tm1 H1 mk1 =>
      rw [hb] at he
      cases e1 with
      | normal =>
        have he : Rs.ok .normal tm1 H1 mk1 = .ok e tm' H' mk' := he
        cases he
        exact ih hin.block hok hb hr ht hmk fun ρ' a' w' g t m => hQ ρ' a' w' g t m
      | ret =>
        have he : Rs.ok .ret tm1 H1 mk1 = .ok e tm' H' mk' := he
        cases he
        exact ih hin.block hok hb hr ht hmk fun ρ' a' w' g t m => hQ ρ' a' w' g t m
      | exit id' =>
        have he : br (Nat.beq id' id) (Rs.ok .normal tm1 H1 mk1) (.ok (.exit id') tm1 H1 mk1) = .ok e tm' H' mk' := he
        rw [br_eq] at he
        refine ih hin.block hok hb hr ht hmk fun ρ' a' w' g t m => ?_
        show if id' = id then Q .normal a' w' else Q (.exit id') a' w'
        split at he
        · rename_i hq
          cases he
          rw [if_pos (Nat.eq_of_beq_eq_true hq)]
          exact hQ ρ' a' w' g t m
        · rename_i hq
          cases he
          rw [if_neg (fun q => hq (by rw [q]; exact Nat.beq_refl _))]
          exact hQ ρ' a' w' g t m
  | loop b ih => exact fun hin hok => code_loop (ih hin.loop (by simpa only [codeOk] using hok))
  | rangeFunc g ps x y _ _ => exact fun hin hok => code_range hcx hro hin hok
  | exit id =>
    intro _ _ ρ H w tm a mk e tm' H' mk' Q he hr ht hmk hQ
    have he : Rs.ok (.exit id) tm H mk = .ok e tm' H' mk' := he
    cases he
    exact wpIn_exit (hQ ρ a w hr.good ht hmk)
  | scope b _ =>
    intro _ _ ρ H w tm a mk e tm' H' mk' Q he
    have he : Rs.fail = .ok e tm' H' mk' := he
    cases he
  | label l =>
    intro _ _ ρ H w tm a mk e tm' H' mk' Q he hr ht hmk hQ
    have he : Rs.ok .normal tm H mk = .ok e tm' H' mk' := he
    cases he
    exact wpIn_label (hQ ρ a w hr.good ht hmk)
  | goto l =>
    intro _ _ ρ H w tm a mk e tm' H' mk' Q he
    have he : Rs.fail = .ok e tm' H' mk' := he
    cases he
  | ret =>
    intro _ _ ρ H w tm a mk e tm' H' mk' Q he hr ht hmk hQ
    have he : Rs.ok .ret tm H mk = .ok e tm' H' mk' := he
    cases he
    exact wpIn_ret (hQ ρ a w hr.good ht hmk)
  | refuse s =>
    intro _ _ ρ H w tm a mk e tm' H' mk' Q he
    have he : Rs.fail = .ok e tm' H' mk' := he
    cases he

end code
end Go.Ab
