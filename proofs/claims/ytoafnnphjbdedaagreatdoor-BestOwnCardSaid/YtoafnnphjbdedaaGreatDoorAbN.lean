/- One operation in the walk's rules; a region in the order of its text. -/
import Derived.Test.YtoafnnphjbdedaaGreatDoorAbM
import Derived.RangeFuncLeaves
namespace Go.Ab
variable {P : Program} {ρ : Env} {H : AH} {w : World} {at_ : Option Nat} {W : Tmp → Prop}

/-- The fence that lets everything in; in a round's frame, or in none. -/
abbrev Fr (ro : Option Nat) : Fence := { Fence.wide with round := ro }

/-- What an ending must be: a value, with a world that the heap stands for. -/
def Ret (P : Program) (ρ : Env) (H : AH) (w : World) (v : AV) (H' : AH) : Ending → World → Prop
  | .returned v', w' => ∃ ρ', Rel ρ' v v' ∧ Good none P ρ H w ρ' H' w'
  | _, _ => False

/-- What the calls and the rounds, evaluated, are. -/
structure CxOk (P : Program) (call : CallF) (round : RoundF) : Prop where
  call : ∀ {f : FuncId} {args : List AV} {args' : Array Value} {ρ : Env} {H : AH} {w : World} {v : AV} {H' : AH}, call f args H = some (v, H') → Real P ρ H w → RelL ρ args args'.toList →
    (hasBody P f = true → ∀ n, CallsIn Fence.wide n P f args' w (Ret P ρ H w v H')) ∧ (hasBody P f = false → ∃ v' ρ' w', (callFunc f args').run P w = .ok (.value v') w' ∧ Rel ρ' v v' ∧ Good none P ρ H w ρ' H' w')
  round : ∀ {l : Nat} {args : List AV} {args' : Array Value} {ρ : Env} {H : AH} {w : World} {v : AV} {H' : AH} {q : Loc}, round l args H = some (v, H') → Real P ρ H w → ρ l = some q → RelL ρ args args'.toList →
    ∃ fn tmps asg body, (Instr.yield q.blk args').run P w = .ok (.round q.blk fn tmps asg body) w ∧ ∀ n, RoundIn Fence.wide n P q.blk fn tmps asg body w (Ret P ρ H w v H')

theorem aop_defer {tm : TM0} {c : Call} : (aop P (.defer c)).val tm H at_ = none := by
  unfold aop
  rw [br_eq]
  split <;> simp [aopF, dead]

theorem op_wp {cx : Cx} (hcx : CxOk P cx.call cx.round) {ro : Option Nat} {n : Nat} {o : Oper} {a : Act} {next : Act → World → Prop} {Q : Exit → Act → World → Prop} {tm : TM0} {v : AV} {H' : AH}
    (h : At P ρ H w tm a W) (ha : AtOk ρ H at_) (hW : ∀ t, .tmp t ∈ o.op.operands.toList → W t) (he : finO cx H ((aop P o.op).val tm H at_) = some (v, H'))
    (hk : ∀ ρ' v' w', Rel ρ' v v' → Good at_ P ρ H w ρ' H' w' → next (a.put o.dst v') w') : o.wpIn (Fr ro) n P a w next Q := by
  refine ⟨fun _ _ => trivial, ?_⟩
  have hsem : o.semAt ro a.eval = execOp a.eval o := by
    refine Oper.semAt_eq _ _ _ fun c hc => ?_
    rw [hc, aop_defer] at he
    cases he
  show o.uponIn (Fr ro) n P a next Q ((o.semAt ro a.eval).run P w)
  rw [hsem]
  obtain ⟨dst, op, type, pos, after, guard⟩ := o
  cases hout : (aop P op).val tm H at_ with
  | none => simp only [hout] at he; cases he
  | some out =>
    have hs := aop_sound (dst := dst) (type := type) (pos := pos) (after := after) (guard := guard) h ha hW hout
    simp only [hout] at he
    cases out with
    | val u G =>
      obtain ⟨rfl, rfl⟩ : u = v ∧ G = H' := by
        have : some (u, G) = some (v, H') := he
        simpa using this
      obtain ⟨ρ', v', w', hr, r1, r2⟩ := hs
      rw [hr, Oper.uponIn_value]
      exact hk ρ' v' w' r1 r2
    | skip G =>
      obtain ⟨rfl, rfl⟩ : undefA = v ∧ G = H' := by
        have : some (undefA, G) = some (v, H') := he
        simpa using this
      obtain ⟨ρ', w', hr, r2⟩ := hs
      rw [hr, Oper.uponIn_skip]
      exact hk ρ' undef w' rel_undef r2
    | enter f args =>
      have he : cx.call f args H = some (v, H') := he
      obtain ⟨args', hr, r1⟩ := hs
      rw [hr]
      have hcc := hcx.call he h.real r1
      cases hb : hasBody P f with
      | false =>
        obtain ⟨v', ρ', w', q1, q2, q3⟩ := hcc.2 hb
        rw [q1, Oper.uponIn_value]
        exact hk ρ' v' w' q2 q3.any
      | true =>
      rw [call_run hb, Oper.uponIn_enter]
      refine ⟨fun hq => by simp [Fence.wide] at hq, ?_⟩
      have hc := hcc.1 hb (n - 1)
      refine CallsIn.mono (show CallsIn (Fr ro) (n - 1) P f args' w _ from hc) fun e w' hR => ?_
      cases e with
      | returned v' =>
        obtain ⟨ρ', q1, q2⟩ := hR
        exact hk ρ' v' w' q1 q2.any
      | panicked chain => exact hR.elim
      | outgrown => exact hR.elim
    | round l args =>
      have he : cx.round l args H = some (v, H') := he
      obtain ⟨q, args', hq, r1, hr⟩ := hs
      obtain ⟨fn, tmps, asg, body, hy, hR⟩ := hcx.round he h.real hq r1
      rw [hr, hy, Oper.uponIn_round]
      refine ⟨fun hq => by simp [Fence.wide] at hq, ?_⟩
      refine RoundIn.mono (show RoundIn (Fr ro) (n - 1) P q.blk fn tmps asg body w _ from hR (n - 1)) fun e w' hR => ?_
      cases e with
      | returned v' =>
        obtain ⟨ρ', q1, q2⟩ := hR
        exact hk ρ' v' w' q1 q2.any
      | panicked chain => exact hR.elim
      | outgrown => exact hR.elim

/-! Guards. -/
/-- What a guard looks at. -/
def guardTmp (ops : Array Oper) : Option (Nat × Bool) → Option Tmp
  | none => none
  | some (j, _) => opDst ops j

theorem opDst_eq (ops : Array Oper) (j : Nat) : opDst ops j = (ops[j]?).bind (·.dst) := by
  unfold opDst; cases ops[j]? <;> rfl

def vbool : Value → Option Bool
  | .bool c => some c
  | _ => none
theorem boolIs_rel {v : AV} {v' : Value} (h : Rel ρ v v') (b : Bool) : boolIs b v = (vbool v' == some b) := by
  cases v with
  | bool c => cases h; simp [boolIs, vbool]
  | ptr p => rcases p with _ | ⟨b, o⟩ <;> first | (cases h; rfl) | (obtain ⟨l, _, h⟩ := h; cases h; rfl)
  | slice p n c ex => rcases p with _ | ⟨b, o⟩ <;> first | (cases h; rfl) | (obtain ⟨l, _, h⟩ := h; cases h; rfl)
  | map p => cases p <;> first | (cases h; rfl) | (obtain ⟨l, _, h⟩ := h; cases h; rfl)
  | tail b o => obtain ⟨l, a, c, _, h, _⟩ := h; cases h; rfl
  | fn f a c => obtain ⟨a', c', h, _⟩ := h; cases h; rfl
  | yld l => obtain ⟨q, _, h⟩ := h; cases h; rfl
  | iface t x => obtain ⟨y, h, _⟩ := h; cases h; rfl
  | agg cs => obtain ⟨y, h, _⟩ := h; cases h; rfl
  | tup cs => obtain ⟨y, h, _⟩ := h; cases h; rfl
  | any => cases h
  | _ => cases h; rfl

theorem wanted_eq {ops : Array Oper} {o : Oper} {tm : TM0} {tmps : Array Value} (h : ∀ d, guardTmp ops o.guard = some d → Rel ρ (tm.get d) (tmps.getD d undef)) :
    Region.wanted o (yielded ops tmps) = (guardB ops o.guard).val tm := by
  unfold Region.wanted guardB
  cases hg : o.guard with
  | none => rfl
  | some p =>
    obtain ⟨j, b⟩ := p
    simp only
    rw [hg] at h
    simp only [guardTmp] at h
    cases hd : opDst ops j with
    | none =>
      have : yielded ops tmps j = none := by
        unfold yielded
        rw [← opDst_eq, hd]; rfl
      rw [this]; rfl
    | some d =>
      have h := h d hd
      simp only [val_mk]
      rw [boolIs_rel h b]
      congr 1
      unfold yielded
      rw [← opDst_eq, hd]
      simp only [Option.bind_some]
      rw [Array.getD_eq_getD_getElem?]
      cases ht : tmps[d]? with
      | none => rfl
      | some x => cases x <;> rfl

/-! A step of a region. -/
noncomputable def setO (d : Option Tmp) (v : AV) (tm : TM0) : TM0 := match d with | some d => tm.set d v | none => tm

theorem putB_eq (d : Option Tmp) (v : AV) (tm : TM0) (k : TM0 → Option (TM0 × AH)) : (putB d).val v tm k = k (setO d v tm) := by
  cases d with
  | none => rfl
  | some d => simp [putB, val_mk, setO, forceV_eq, TM0.setK_eq]

/-- One operation, evaluated. -/
noncomputable def goE (P : Program) (ops : Array Oper) (cx : Cx) (at_ : Option Nat) (o : Oper) (tm : TM0) (H : AH) : Option (AV × AH) :=
  if (guardB ops o.guard).val tm then finO cx H ((aop P o.op).val tm H at_) else some (undefA, H)

theorem stepB_eq {ops : Array Oper} {rank : Option Nat} {o : Oper} {k : RunF} {cx : Cx} {base : Nat} {tm : TM0} {r : TM0 × AH} :
    (stepB P ops rank o k).val cx base tm H = some r ↔ ∃ v H', goE P ops cx (rank.map (base + ·)) o tm H = some (v, H') ∧ k cx base (setO o.dst v tm) H' = some r := by
  have hr : ∀ x : Option Nat, @Option.rec Nat (fun _ => Option Nat) none (fun r => some (Nat.add base r)) x = x.map (base + ·) := fun x => by cases x <;> rfl
  simp only [stepB, bx_eq, val_mk, stepF, putB_eq, br_eq, goE, hr]
  by_cases hg : (guardB ops o.guard).val tm = true
  · simp only [hg, if_true, ob2_eq_some]
  · simp only [hg, if_false, Bool.false_eq_true, Option.some.injEq, Prod.mk.injEq]
    constructor
    · intro h; exact ⟨_, _, ⟨rfl, rfl⟩, h⟩
    · rintro ⟨v, H', ⟨rfl, rfl⟩, h⟩; exact h

/-- All of the activation is known. -/
abbrev All : Tmp → Prop := fun _ => True

theorem TmRel.at (hr : Real P ρ H w) {n : Nat} {tm : TM0} {a : Act} (ht : TmRel ρ n tm a.tmps) : At P ρ H w tm a W := ⟨hr, fun i _ => ht.rel i⟩

theorem TmRel.setO {n : Nat} {tm : TM0} {a : Act} (h : TmRel ρ n tm a.tmps) {d : Option Tmp} (hd : dstOk n d = true) {v : AV} {v' : Value} (hv : Rel ρ v v') : TmRel ρ n (setO d v tm) (a.put d v').tmps := by
  cases d with
  | none => exact h
  | some d => exact h.set (by simpa [dstOk] using hd) hv

theorem put_defers (a : Act) (d : Option Tmp) (v : Value) : (a.put d v).defers = a.defers := by cases d <;> rfl

/-- One operation at a state of which all is known. -/
theorem goE_wp {cx : Cx} (hcx : CxOk P cx.call cx.round) {ops : Array Oper} {ro : Option Nat} {n : Nat} {o : Oper} {a : Act} {Q : Exit → Act → World → Prop} {i : Nat} {rest : List Nat} {tm : TM0} {v : AV} {H' : AH} (hi : ops[i]? = some o)
    (h : At P ρ H w tm a W) (ha : AtOk ρ H at_) (hW : ∀ t, .tmp t ∈ o.op.operands.toList → W t) (hG : ∀ t, guardTmp ops o.guard = some t → W t) (he : goE P ops cx at_ o tm H = some (v, H'))
    (hk : ∀ ρ' v' w', Rel ρ' v v' → Good at_ P ρ H w ρ' H' w' → wpOpsIn (Fr ro) n P ops Q rest (a.put o.dst v') w') : wpOpsIn (Fr ro) n P ops Q (i :: rest) a w := by
  have hw := wanted_eq (ops := ops) (o := o) (tm := tm) (tmps := a.tmps) fun d hd => h.tm d (hG d hd)
  unfold goE at he
  simp only [wpOpsIn, hi]
  rw [hw]
  split
  · rename_i hq
    rw [if_pos hq] at he
    exact op_wp hcx h ha hW he hk
  · rename_i hq
    rw [if_neg hq] at he
    cases he
    exact ⟨fun _ _ => trivial, hk ρ undef w rel_undef h.real.good⟩

/-- A region in the order of its text. -/
theorem text_wp {cx : Cx} (hcx : CxOk P cx.call cx.round) {ops : Array Oper} {ro : Option Nat} {n N : Nat} {Q : Exit → Act → World → Prop} : ∀ (l : List Oper) (k : Nat) (ρ : Env) (H : AH) (w : World) (tm : TM0) (a : Act) (tm' : TM0) (H' : AH),
    ops.toList.drop k = l → (∀ o ∈ l, dstOk N o.dst = true) → Real P ρ H w → TmRel ρ N tm a.tmps → (textB P ops l).val cx 0 tm H = some (tm', H') →
    (∀ ρ' a' w', Good none P ρ H w ρ' H' w' → TmRel ρ' N tm' a'.tmps → a'.defers = a.defers → Q .normal a' w') → wpOpsIn (Fr ro) n P ops Q (List.range' k (ops.size - k)) a w
  | [], k, ρ, H, w, tm, a, tm', H', hl, hd, hr, ht, he, hQ => by
    have hk : ops.size - k = 0 := by
      have := congrArg List.length hl
      simpa using this
    rw [hk]
    have he : some (tm, H) = some (tm', H') := he
    cases he
    exact hQ ρ a w hr.good ht rfl
  | o :: l, k, ρ, H, w, tm, a, tm', H', hl, hd, hr, ht, he, hQ => by
    have hlen := congrArg List.length hl
    simp only [List.length_drop, Array.length_toList, List.length_cons] at hlen
    have hk : ops.size - k = (ops.size - (k + 1)) + 1 := by omega
    rw [hk, List.range'_succ]
    have hi : ops[k]? = some o := by
      have := congrArg (fun x => x[0]?) hl
      simpa using this
    have hl' : ops.toList.drop (k + 1) = l := by
      have := congrArg List.tail hl
      simpa using this
    have he : (stepB P ops none o ((textB P ops l).val)).val cx 0 tm H = some (tm', H') := by
      have e : textB P ops (o :: l) = bx (textB P ops l) fun k => stepB P ops none o k := rfl
      rw [e, bx_eq] at he
      exact he
    rw [stepB_eq] at he
    obtain ⟨v, H1, h1, h2⟩ := he
    refine goE_wp (W := All) hcx hi (ht.at hr) (at_ := none) trivial (fun _ _ => trivial) (fun _ _ => trivial) h1 fun ρ' v' w' r1 r2 => ?_
    exact text_wp hcx l (k + 1) ρ' H1 w' _ _ tm' H' hl' (fun x hx => hd x (by simp [hx])) r2.real ((ht.mono r2.ev.le).setO (a := a) (hd o (by simp)) r1) h2
      fun ρ2 a2 w2 g1 g2 g3 => hQ ρ2 a2 w2 (r2.trans g1) g2 (by rw [g3, put_defers])

end Go.Ab
