/- The evaluator, part 3 of 3. -/
import Derived.Test.YtlbjmgpbgkiejaaGreatDoorEv2
import Derived.Below
import Derived.Deep.Slices
import Derived.Deep.Fields
import Derived.ChangeSame

section
/- The evaluator at any input: what a run ends with, as a statement that is taken apart step by step. -/

namespace Go.Ab
variable {P : Program}
noncomputable section

def TE.set (a : TE) (d : Nat) (v : AV) : TE := fun i => br (Nat.beq i d) v (a i)
def TE.setO (a : TE) (d : Option Tmp) (v : AV) : TE := @Option.rec Tmp (fun _ => TE) a (fun d => TE.set a d v) d
theorem TE.set_eq (a : TE) (d : Nat) (v : AV) (i : Nat) : a.set d v i = if i = d then v else a i := by
  unfold TE.set
  rw [br_eq]
  simp only [Nat.beq_eq]

/-- The same temporaries; there is room for n. -/
structure TmEq (n : Nat) (tm : TM0) (a : TE) : Prop where
  get : ∀ i, a i = tm.get i
  room : ∀ i, i < n → tm.has i = true
theorem TmEq.setO {n : Nat} {tm : TM0} {a : TE} (h : TmEq n tm a) {d : Option Tmp} (hd : dstOk n d = true) (v : AV) : TmEq n (setO d v tm) (a.setO d v) := by
  cases d with
  | none => exact h
  | some d =>
    have hd : d < n := by simpa [dstOk] using hd
    refine ⟨fun i => ?_, fun i hi => by show (tm.set d v).has i = true; rw [TM0.has_set]; exact h.room i hi⟩
    show a.set d v i = (tm.set d v).get i
    rw [TE.set_eq, TM0.get_set _ _ _ (h.room d hd), h.get]

/-! What calls come to. -/
structure CW where
  call : FuncId → List AV → AH → (AV → AH → Prop) → Prop
  round : Nat → List AV → AH → (AV → AH → Prop) → Prop

/-- From some number of rounds on it is so. -/
def Evn (g : Nat → Option (AV × AH)) (K : AV → AH → Prop) : Prop := ∃ n v H', (∀ m, n ≤ m → g m = some (v, H')) ∧ K v H'
def WP (P : Program) (prim : PrimF) : CW := ⟨fun f args H K => Evn (fun m => (evBoth P prim m).1 f args H) K, fun l args H K => Evn (fun m => (evBoth P prim m).2 l args H) K⟩
theorem Evn.mono {g : Nat → Option (AV × AH)} {K K' : AV → AH → Prop} (h : Evn g K) (hk : ∀ v H, K v H → K' v H) : Evn g K' := by
  obtain ⟨n, v, H', h1, h2⟩ := h
  exact ⟨n, v, H', h1, hk _ _ h2⟩
theorem WP.mono {prim : PrimF} {f : FuncId} {args : List AV} {H : AH} {K K' : AV → AH → Prop} (h : (WP P prim).call f args H K) (hk : ∀ v H, K v H → K' v H) : (WP P prim).call f args H K' := Evn.mono h hk

def outP (C : CW) (H : AH) (out : Option Out) (K : AV → AH → Prop) : Prop :=
  @Option.rec Out (fun _ => Prop) False (fun o => @Out.rec (fun _ => Prop) (fun v H' => K v H') (fun H' => K undefA H') (fun f args => C.call f args H K) (fun l args => C.round l args H K) o) out

abbrev KE := TE → AH → Prop
abbrev KP := Ex → TE → AH → Prop

/-- Guarded: skipped, if the guard is down. -/
def guardP (g : Bool) (H : AH) (X : (AV → AH → Prop) → Prop) (K : AV → AH → Prop) : Prop := @Bool.rec (fun _ => Prop) (K undefA H) (X K) g
theorem guardP_eq (g : Bool) (H : AH) (X : (AV → AH → Prop) → Prop) (K : AV → AH → Prop) : guardP g H X K = if g then X K else K undefA H := by cases g <;> rfl
def guardE (ops : Array Oper) (g : Option (Nat × Bool)) : TE → Bool := match g with
  | none => fun _ => true
  | some (j, w) => match opDst ops j with
    | some d => fun a => boolIs w (a d)
    | none => fun _ => false
theorem guardE_eq (ops : Array Oper) (g : Option (Nat × Bool)) {a : TE} {tm : TM0} (h : ∀ i, a i = tm.get i) : guardE ops g a = (guardB ops g).val tm := by
  cases g with
  | none => rfl
  | some p =>
    obtain ⟨j, w⟩ := p
    unfold guardE guardB
    simp only
    cases opDst ops j with
    | none => rfl
    | some d => simp only [h, val_mk]

def opE (a : TE) (x : Operand) : AV := (opdBE x).val a
abbrev stepP (P : Program) (C : CW) (g : TE → Bool) (o : Oper) (at_ : Option Nat) (k : KE) : KE := fun a H =>
  guardP (g a) H (outP C H ((aopE P o.op).val a H at_)) fun v H' => k (a.setO o.dst v) H'
/-- A step as it is printed: what moves a value leaves no trace; what is not guarded is done. -/
abbrev plainP (P : Program) (C : CW) (dst : Option Tmp) (at_ : Option Nat) (op : Op) (k : KE) : KE := fun a H =>
  outP C H ((aopE P op).val a H at_) fun v H' => k (a.setO dst v) H'
abbrev stepO (P : Program) (C : CW) (ops : Array Oper) (o : Oper) (at_ : Option Nat) (k : KE) : KE := match o.guard with
  | some g => stepP P C (guardE ops (some g)) o at_ k
  | none => match o.op with
    | .move x => fun a H => @Bool.rec (fun _ => Prop) False (k (a.setO o.dst (opE a x)) H) (okOpd P x)
    | .assign x => fun a H => @Bool.rec (fun _ => Prop) False (k (a.setO o.dst (opE a x)) H) (okOpd P x)
    | op => plainP P C o.dst at_ op k

abbrev textP (P : Program) (C : CW) (ops : Array Oper) (l : List Oper) (k : KE) : KE :=
  @List.rec Oper (fun _ => KE) k (fun o _ ih => stepO P C ops o none ih) l

def reC (g : Bool) (out : Option Out) (d : AV) : Bool :=
  br g (@Option.rec Out (fun _ => Bool) false (fun o => @Out.rec (fun _ => Bool) (fun v _ => AV.beq v d) (fun _ => false) (fun _ _ => false) (fun _ _ => false) o) out) true
def ckP (c : Bool) (X : Prop) : Prop := @Bool.rec (fun _ => Prop) False X c
theorem ckP_eq (c : Bool) (X : Prop) : ckP c X = if c then X else False := by cases c <;> rfl
abbrev reP (P : Program) (g : TE → Bool) (op : Op) (d : Tmp) (k : KE) : KE := fun a H => ckP (reC (g a) ((aopE P op).val a H none) (a d)) (k a H)

abbrev insP (P : Program) (C : CW) (ops : Array Oper) (base : Nat) (l : List Ins) (k : KE) : KE :=
  @List.rec Ins (fun _ => KE) k (fun x _ ih => match x with
    | .go i => match ops[i]? with
      | some o => stepO P C ops o (br (isFloat o.op) (some (Nat.add base (rankF ops i))) none) ih
      | none => fun _ _ => False
    | .re i => match ops[i]? with
      | some o => match o.dst with
        | some d => reP P (guardE ops o.guard) o.op d ih
        | none => fun _ _ => False
      | none => fun _ _ => False) l

def AH.more (H : AH) (n : Nat) : AH := ⟨H.tr, Nat.add H.next n⟩

abbrev regP (P : Program) (C : CW) (ops : Array Oper) (draw : Bool) (k : KE) : KE := fun a H =>
  @Bool.rec (fun _ => Prop) (textP P C ops ops.toList k a H) (@Option.rec (List Ins) (fun _ => Prop) False (fun is => insP P C ops H.next is k a (H.more (rankF ops ops.size))) (sched P ops)) draw

abbrev exP (k : KE) (K : KP) : KP := fun e a H => @Ex.rec (fun _ => Prop) (k a H) (fun id => K (.exit id) a H) (K .ret a H) e
abbrev blockP (id : Nat) (K : KP) : KP := fun e a H => @Ex.rec (fun _ => Prop) (K .normal a H) (fun id' => @Bool.rec (fun _ => Prop) (K (.exit id') a H) (K .normal a H) (Nat.beq id' id)) (K .ret a H) e
def iterP {S : Type} (F : (S → AH → Prop) → S → AH → Prop) (n : Nat) : S → AH → Prop := @Nat.rec (fun _ => S → AH → Prop) (fun _ _ => False) (fun _ ih => F ih) n
def loopP {S : Type} (F : (S → AH → Prop) → S → AH → Prop) : S → AH → Prop := fun s H => ∃ n, iterP F n s H
def condP (c : AV) (x y : Prop) : Prop := match c with
  | .bool b => br b x y
  | _ => False

abbrev codeP (P : Program) (C : CW) (c : Code) : KP → KE :=
  @Code.rec (fun _ => KP → KE)
    (fun K => K .normal)
    (fun _ ops draw K => regP P C ops draw (K .normal))
    (fun _ _ ia ib K => ia (exP (ib K) K))
    (fun c _ _ ia ib K a H => condP (opE a c) (ia K a H) (ib K a H))
    (fun id _ ib K => ib (blockP id K))
    (fun _ ib K => loopP fun rec => ib (exP rec K))
    (fun _ _ _ _ _ _ _ _ _ => False)
    (fun id K => K (.exit id))
    (fun _ _ _ _ _ => False)
    (fun _ K => K .normal)
    (fun _ _ _ _ => False)
    (fun K => K .ret)
    (fun _ _ _ _ => False)
    c

/-! It is so. -/
section
variable {prim : PrimF}
abbrev cxOf (P : Program) (prim : PrimF) (m : Nat) (fn : FuncId) (ar : Option Nat) : Cx := ⟨(evBoth P prim m).1, (evBoth P prim m).2, m, fn, ar⟩

theorem outP_ok {H : AH} {out : Option Out} {K : AV → AH → Prop} (h : outP (WP P prim) H out K) (fn : FuncId) (ar : Option Nat) : ∃ n v H', (∀ m, n ≤ m → finO (cxOf P prim m fn ar) H out = some (v, H')) ∧ K v H' := by
  cases out with
  | none => exact h.elim
  | some o =>
    cases o with
    | val v H' => exact ⟨0, v, H', fun _ _ => rfl, h⟩
    | skip H' => exact ⟨0, _, H', fun _ _ => rfl, h⟩
    | enter f args =>
      obtain ⟨n, v, H', h1, h2⟩ := h
      exact ⟨n, v, H', fun m hm => h1 m hm, h2⟩
    | round l args =>
      obtain ⟨n, v, H', h1, h2⟩ := h
      exact ⟨n, v, H', fun m hm => h1 m hm, h2⟩

/-- Code of a region that comes to its end. -/
def RunsE (P : Program) (prim : PrimF) (fn : FuncId) (ar : Option Nat) (N : Nat) (f : RunF) (base : Nat) (tm : TM0) (H : AH) (k : KE) : Prop :=
  ∃ n tm' a' H', (∀ m, n ≤ m → f (cxOf P prim m fn ar) base tm H = some (tm', H')) ∧ TmEq N tm' a' ∧ k a' H'

theorem stepP_ok {fn : FuncId} {ar : Option Nat} {N : Nat} {ops : Array Oper} {o : Oper} {rank : Option Nat} {base : Nat} {k : KE} {f : RunF} {kk : KE} {a : TE} {tm : TM0} {H : AH} (ht : TmEq N tm a) (hd : dstOk N o.dst = true)
    (h : stepP P (WP P prim) (guardE ops o.guard) o (rank.map (base + ·)) kk a H) (ih : ∀ a tm H, TmEq N tm a → kk a H → RunsE P prim fn ar N f base tm H k) :
    RunsE P prim fn ar N (stepF (guardB ops o.guard).val (aop P o.op).val (putB o.dst).val rank f) base tm H k := by
  have hr : @Option.rec Nat (fun _ => Option Nat) none (fun r => some (Nat.add base r)) rank = rank.map (base + ·) := by cases rank <;> rfl
  unfold stepP at h
  rw [guardP_eq] at h
  unfold RunsE stepF
  rw [guardE_eq ops o.guard ht.get, aopE_val ht.get] at h
  simp only [hr, putB_eq, br_eq] at h ⊢
  by_cases hg : (guardB ops o.guard).val tm = true
  · simp only [hg, if_true] at h ⊢
    obtain ⟨n, v, H', h1, h2⟩ := outP_ok h fn ar
    obtain ⟨n2, tm', a', H2, h3, h4⟩ := ih _ _ _ (ht.setO hd v) h2
    refine ⟨max n n2, tm', a', H2, fun m hm => ?_, h4⟩
    rw [h1 m (by omega), ob2_some]
    exact h3 m (by omega)
  · simp only [hg, if_false, Bool.false_eq_true] at h ⊢
    exact ih _ _ _ (ht.setO hd undefA) h

theorem stepO_stepP {C : CW} {ops : Array Oper} {o : Oper} {at_ : Option Nat} {k : KE} {a : TE} {H : AH} (h : stepO P C ops o at_ k a H) : stepP P C (guardE ops o.guard) o at_ k a H := by
  obtain ⟨dst, op, type, pos, after, guard⟩ := o
  cases guard with
  | some g => exact h
  | none =>
    have mv : ∀ x : Operand, (op = .move x ∨ op = .assign x) → @Bool.rec (fun _ => Prop) False (k (a.setO dst (opE a x)) H) (okOpd P x) → stepP P C (guardE ops none) ⟨dst, op, type, pos, after, none⟩ at_ k a H := by
      intro x ho h
      cases hx : okOpd P x with
      | false => rw [hx] at h; exact h.elim
      | true =>
        rw [hx] at h
        have e : (aopE P op).val a H at_ = some (.val (opE a x) H) := by
          unfold aopE
          have h1 : allB (okOpd P) op.operands.toList = true := by
            rcases ho with rfl | rfl <;> simp [Op.operands, allB_eq, hx]
          rw [h1, br_true]
          rcases ho with rfl | rfl <;> simp [aopFE, b1E, oMoveE, opE]
        show guardP true H (outP C H ((aopE P op).val a H at_)) _
        rw [e]
        exact h
    cases op with
    | move x => exact mv x (.inl rfl) h
    | assign x => exact mv x (.inr rfl) h
    | _ => exact h

theorem textP_ok {fn : FuncId} {ar : Option Nat} {N : Nat} {ops : Array Oper} {base : Nat} {k : KE} : ∀ (l : List Oper) (a : TE) (tm : TM0) (H : AH), (∀ o ∈ l, dstOk N o.dst = true) → TmEq N tm a → textP P (WP P prim) ops l k a H → RunsE P prim fn ar N (textB P ops l).val base tm H k
  | [], a, tm, H, _, ht, h => ⟨0, tm, a, H, fun _ _ => rfl, ht, h⟩
  | o :: l, a, tm, H, hd, ht, h => by
    have e : textB P ops (o :: l) = bx (textB P ops l) fun k => stepB P ops none o k := rfl
    rw [e, bx_eq]
    simp only [stepB, bx_eq, val_mk]
    have h : stepO P (WP P prim) ops o none (textP P (WP P prim) ops l k) a H := h
    exact stepP_ok (rank := none) ht (hd o (by simp)) (stepO_stepP h) fun a tm H ht h => textP_ok l a tm H (fun o ho => hd o (by simp [ho])) ht h

theorem insP_ok {fn : FuncId} {ar : Option Nat} {N : Nat} {ops : Array Oper} {base : Nat} {k : KE} (hd : ∀ o ∈ ops.toList, dstOk N o.dst = true) : ∀ (l : List Ins) (a : TE) (tm : TM0) (H : AH), TmEq N tm a → insP P (WP P prim) ops base l k a H → RunsE P prim fn ar N (insB P ops l).val base tm H k
  | [], a, tm, H, ht, h => ⟨0, tm, a, H, fun _ _ => rfl, ht, h⟩
  | x :: l, a, tm, H, ht, h => by
    have e : ∀ y : Ins, insB P ops (y :: l) = bx (insB P ops l) fun k => (match y with
      | .go i => (match ops[i]? with
        | some o => stepB P ops (br (isFloat o.op) (some (rankF ops i)) none) o k
        | none => .mk failF)
      | .re i => (match ops[i]? with
        | some o => reB P ops o k
        | none => .mk failF)) := fun _ => rfl
    rw [e, bx_eq]
    cases x with
    | go i =>
      have h : (match ops[i]? with
        | some o => stepO P (WP P prim) ops o (br (isFloat o.op) (some (Nat.add base (rankF ops i))) none) (insP P (WP P prim) ops base l k)
        | none => fun _ _ => False) a H := h
      simp only
      cases ho : ops[i]? with
      | none => rw [ho] at h; exact h.elim
      | some o =>
        rw [ho] at h
        simp only [stepB, bx_eq, val_mk] at h ⊢
        refine stepP_ok (rank := br (isFloat o.op) (some (rankF ops i)) none) ht (hd o (by rw [Array.mem_toList_iff]; exact Array.mem_of_getElem? ho)) ?_ fun a tm H ht h => insP_ok hd l a tm H ht h
        have : (br (isFloat o.op) (some (rankF ops i)) none).map (base + ·) = br (isFloat o.op) (some (Nat.add base (rankF ops i))) none := by cases isFloat o.op <;> rfl
        rw [this]; exact stepO_stepP h
    | re i =>
      have h : (match ops[i]? with
        | some o => match o.dst with
          | some d => reP P (guardE ops o.guard) o.op d (insP P (WP P prim) ops base l k)
          | none => fun _ _ => False
        | none => fun _ _ => False) a H := h
      simp only
      cases ho : ops[i]? with
      | none => rw [ho] at h; exact h.elim
      | some o =>
        rw [ho] at h
        simp only at h ⊢
        unfold reB
        cases hdd : o.dst with
        | none => rw [hdd] at h; exact h.elim
        | some d =>
          rw [hdd] at h
          simp only [bx_eq, val_mk] at h ⊢
          unfold reP at h
          rw [ckP_eq] at h
          unfold reC at h
          rw [guardE_eq ops o.guard ht.get, aopE_val ht.get, ht.get d] at h
          unfold RunsE reF
          simp only [br_eq] at h ⊢
          by_cases hg : (guardB ops o.guard).val tm = true
          · simp only [hg, if_true] at h ⊢
            cases hout : (aop P o.op).val tm H none with
            | none => rw [hout] at h; exact h.elim
            | some out =>
              rw [hout] at h
              cases out with
              | val v H' =>
                simp only at h
                by_cases hb : AV.beq v (tm.get d) = true
                · simp only [hb, if_true] at h
                  obtain ⟨n, tm', a', H2, h3, h4⟩ := insP_ok (fn := fn) (ar := ar) hd l a tm H ht h
                  refine ⟨n, tm', a', H2, fun m hm => ?_, h4⟩
                  simp only [ob_some, hb, if_true]
                  exact h3 m hm
                · simp only [hb] at h
                  exact h.elim
              | _ => exact h.elim
          · simp only [hg, if_false, Bool.false_eq_true] at h ⊢
            exact insP_ok hd l a tm H ht h

theorem regP_ok {fn : FuncId} {ar : Option Nat} {N : Nat} {ops : Array Oper} {draw : Bool} {k : KE} {a : TE} {tm : TM0} {H : AH} (hd : ∀ o ∈ ops.toList, dstOk N o.dst = true) (ht : TmEq N tm a) (h : regP P (WP P prim) ops draw k a H) :
    ∃ n tm' a' H', (∀ m, n ≤ m → (regB P ops draw).val (cxOf P prim m fn ar) tm H = some (tm', H')) ∧ TmEq N tm' a' ∧ k a' H' := by
  unfold regP at h
  unfold regB
  cases draw with
  | true =>
    rw [br_true]
    have h : @Option.rec (List Ins) (fun _ => Prop) False (fun is => insP P (WP P prim) ops H.next is k a (H.more (rankF ops ops.size))) (sched P ops) := h
    cases hs : sched P ops with
    | none => rw [hs] at h; exact h.elim
    | some is =>
      rw [hs] at h
      simp only [bx_eq, val_mk]
      exact insP_ok hd is a tm _ ht h
  | false =>
    rw [br_false]
    have h : textP P (WP P prim) ops ops.toList k a H := h
    simp only [bx_eq, val_mk]
    exact textP_ok ops.toList a tm H hd ht h

/-- Code that comes to its end. -/
def RunsC (P : Program) (prim : PrimF) (fn : FuncId) (ar : Option Nat) (N : Nat) (c : Code) (tm : TM0) (H : AH) (K : KP) : Prop :=
  ∃ n e tm' a' H', (∀ m, n ≤ m → ∀ mk, (codeB P c).val (cxOf P prim m fn ar) tm H mk = .ok e tm' H' mk) ∧ TmEq N tm' a' ∧ K e a' H'

theorem codeP_ok (fn : FuncId) (ar : Option Nat) (N : Nat) : ∀ (c : Code) (K : KP) (a : TE) (tm : TM0) (H : AH), codeOk P N c = true → TmEq N tm a → codeP P (WP P prim) c K a H → RunsC P prim fn ar N c tm H K
  | .skip, K, a, tm, H, _, ht, h => ⟨0, .normal, tm, a, H, fun _ _ _ => rfl, ht, h⟩
  | .region id ops draw, K, a, tm, H, ho, ht, h => by
    have h : regP P (WP P prim) ops draw (K .normal) a H := h
    simp only [codeOk, allB_eq, List.all_eq_true] at ho
    obtain ⟨n, tm', a', H', h1, h2⟩ := regP_ok (fn := fn) (ar := ar) ho ht h
    refine ⟨n, .normal, tm', a', H', fun m hm mk => ?_, h2⟩
    have e : codeB P (.region id ops draw) = bx (regB P ops draw) fun f => .mk fun cx tm h mk =>
      @Option.rec (TM0 × AH) (fun _ => Rs) .fail (fun p => @Prod.rec TM0 AH (fun _ => Rs) (fun tm' h' => .ok .normal tm' h' mk) p) (f cx tm h) := rfl
    rw [e, bx_eq, val_mk, h1 m hm]
  | .seq x y, K, a, tm, H, ho, ht, h => by
    have h : codeP P (WP P prim) x (exP (codeP P (WP P prim) y K) K) a H := h
    simp only [codeOk, Bool.and_eq_true] at ho
    obtain ⟨n, e, tm', a', H', h1, ht', h2⟩ := codeP_ok fn ar N x _ a tm H ho.1 ht h
    have e0 : codeB P (.seq x y) = bx (codeB P x) fun a => bx (codeB P y) fun b => .mk fun cx tm h mk => (a cx tm h mk).next (b cx) := rfl
    cases e with
    | normal =>
      obtain ⟨n2, e2, tm2, a2, H2, h3, h4⟩ := codeP_ok fn ar N y _ a' tm' H' ho.2 ht' h2
      refine ⟨max n n2, e2, tm2, a2, H2, fun m hm mk => ?_, h4⟩
      rw [e0, bx_eq, bx_eq, val_mk, h1 m (by omega)]
      exact h3 m (by omega) mk
    | exit id =>
      refine ⟨n, .exit id, tm', a', H', fun m hm mk => ?_, ht', h2⟩
      rw [e0, bx_eq, bx_eq, val_mk, h1 m hm]; rfl
    | ret =>
      refine ⟨n, .ret, tm', a', H', fun m hm mk => ?_, ht', h2⟩
      rw [e0, bx_eq, bx_eq, val_mk, h1 m hm]; rfl
  | .cond c x y, K, a, tm, H, ho, ht, h => by
    have h : condP (opE a c) (codeP P (WP P prim) x K a H) (codeP P (WP P prim) y K a H) := h
    have e0 : codeB P (.cond c x y) = bx (opdB c) fun c => bx (codeB P x) fun a => bx (codeB P y) fun b => .mk fun cx tm h mk => condOf (c tm) (a cx tm h mk) (b cx tm h mk) := rfl
    simp only [codeOk, Bool.and_eq_true] at ho
    unfold opE at h
    rw [opdE_val ht.get] at h
    unfold condP at h
    split at h
    · rename_i b hb
      cases b with
      | true =>
        obtain ⟨n, e, tm', a', H', h1, h2⟩ := codeP_ok fn ar N x _ a tm H ho.2.1 ht h
        refine ⟨n, e, tm', a', H', fun m hm mk => ?_, h2⟩
        rw [e0, bx_eq, bx_eq, bx_eq, val_mk, hb]
        exact h1 m hm mk
      | false =>
        obtain ⟨n, e, tm', a', H', h1, h2⟩ := codeP_ok fn ar N y _ a tm H ho.2.2 ht h
        refine ⟨n, e, tm', a', H', fun m hm mk => ?_, h2⟩
        rw [e0, bx_eq, bx_eq, bx_eq, val_mk, hb]
        exact h1 m hm mk
    · exact h.elim
  | .block id x, K, a, tm, H, ho, ht, h => by
    have h : codeP P (WP P prim) x (blockP id K) a H := h
    simp only [codeOk] at ho
    obtain ⟨n, e, tm', a', H', h1, ht', h2⟩ := codeP_ok fn ar N x _ a tm H ho ht h
    have e0 : codeB P (.block id x) = bx (codeB P x) fun b => .mk fun cx tm h mk => blockOf id (b cx tm h mk) := rfl
    cases e with
    | normal =>
      refine ⟨n, .normal, tm', a', H', fun m hm mk => ?_, ht', h2⟩
      rw [e0, bx_eq, val_mk, h1 m hm]; rfl
    | exit id' =>
      have h2 : @Bool.rec (fun _ => Prop) (K (.exit id') a' H') (K .normal a' H') (Nat.beq id' id) := h2
      by_cases hb : Nat.beq id' id = true
      · rw [hb] at h2
        refine ⟨n, .normal, tm', a', H', fun m hm mk => ?_, ht', h2⟩
        rw [e0, bx_eq, val_mk, h1 m hm]
        show br (Nat.beq id' id) _ _ = _
        rw [hb]; rfl
      · have hb : Nat.beq id' id = false := Bool.eq_false_iff.2 hb
        rw [hb] at h2
        refine ⟨n, .exit id', tm', a', H', fun m hm mk => ?_, ht', h2⟩
        rw [e0, bx_eq, val_mk, h1 m hm]
        show br (Nat.beq id' id) _ _ = _
        rw [hb]; rfl
    | ret =>
      refine ⟨n, .ret, tm', a', H', fun m hm mk => ?_, ht', h2⟩
      rw [e0, bx_eq, val_mk, h1 m hm]; rfl
  | .loop x, K, a, tm, H, ho, ht, h => by
    obtain ⟨k, h⟩ := h
    simp only [codeOk] at ho
    have main : ∀ (k : Nat) (a : TE) (tm : TM0) (H : AH), TmEq N tm a → iterP (fun rec => codeP P (WP P prim) x (exP rec K)) k a H →
        ∃ n e tm' a' H', (∀ m, n ≤ m → ∀ k', k ≤ k' → ∀ mk, loopN ((codeB P x).val (cxOf P prim m fn ar)) k' tm H mk = .ok e tm' H' mk) ∧ TmEq N tm' a' ∧ K e a' H' := by
      intro k
      induction k with
      | zero => intro a tm H _ h; exact h.elim
      | succ k ih =>
        intro a tm H ht h
        have h : codeP P (WP P prim) x (exP (iterP (fun rec => codeP P (WP P prim) x (exP rec K)) k) K) a H := h
        obtain ⟨n, e, tm', a', H', h1, ht', h2⟩ := codeP_ok fn ar N x _ a tm H ho ht h
        have step : ∀ m k' mk, k + 1 ≤ k' → loopN ((codeB P x).val (cxOf P prim m fn ar)) k' tm H mk = ((codeB P x).val (cxOf P prim m fn ar) tm H mk).next (loopN ((codeB P x).val (cxOf P prim m fn ar)) (k' - 1)) := by
          intro m k' mk hk
          cases k' with
          | zero => omega
          | succ k' => rfl
        cases e with
        | normal =>
          obtain ⟨n2, e2, tm2, a2, H2, h3, h4⟩ := ih a' tm' H' ht' h2
          refine ⟨max n n2, e2, tm2, a2, H2, fun m hm k' hk mk => ?_, h4⟩
          rw [step m k' mk hk, h1 m (by omega) mk]
          exact h3 m (by omega) (k' - 1) (by omega) mk
        | exit id =>
          refine ⟨n, .exit id, tm', a', H', fun m hm k' hk mk => ?_, ht', h2⟩
          rw [step m k' mk hk, h1 m hm mk]; rfl
        | ret =>
          refine ⟨n, .ret, tm', a', H', fun m hm k' hk mk => ?_, ht', h2⟩
          rw [step m k' mk hk, h1 m hm mk]; rfl
    obtain ⟨n, e, tm', a', H', h1, h2⟩ := main k a tm H ht h
    have e0 : codeB P (.loop x) = bx (codeB P x) fun b => .mk fun cx tm h mk => loopN (b cx) cx.k tm h mk := rfl
    refine ⟨max n k, e, tm', a', H', fun m hm mk => ?_, h2⟩
    rw [e0, bx_eq, val_mk]
    exact h1 m (by omega) m (by omega) mk
  | .rangeFunc _ _ _ _, K, a, tm, H, _, _, h => (h : False).elim
  | .exit id, K, a, tm, H, _, ht, h => ⟨0, .exit id, tm, a, H, fun _ _ _ => rfl, ht, h⟩
  | .scope _, K, a, tm, H, _, _, h => (h : False).elim
  | .label _, K, a, tm, H, _, ht, h => ⟨0, .normal, tm, a, H, fun _ _ _ => rfl, ht, h⟩
  | .goto _, K, a, tm, H, _, _, h => (h : False).elim
  | .ret, K, a, tm, H, _, ht, h => ⟨0, .ret, tm, a, H, fun _ _ _ => rfl, ht, h⟩
  | .refuse _, K, a, tm, H, _, _, h => (h : False).elim
end

/-! Functions. -/
def argE (l : List AV) : TE := fun i => @Option.rec AV (fun _ => AV) undefA (fun v => v) (nthO l i)
def resT (v : AV) (r : Option (List AV)) : Option (List AV) := ob r fun l => some (v :: l)
def resR (part : Option (List AV → Nat → Option AV)) (H : AH) (v : AV) (r : Option (List AV)) : Option (List AV) :=
  ob part fun part => onPtr none (fun b o => ob (ob (cellsTo none H b fun _ cs => part cs o) clearA) fun v => ob r fun l => some (v :: l)) v
def resE (P : Program) (rs : List ResultVar) (a : TE) (H : AH) : Option (List AV) :=
  @List.rec ResultVar (fun _ => Option (List AV)) (some []) (fun r _ ih => match r with
    | .tmp t => resT (a t) ih
    | .cell c t => resR (partF (aggT P t)) H (a c) ih) rs
theorem resE_eq {a : TE} {tm : TM0} (h : ∀ i, a i = tm.get i) (H : AH) : ∀ rs : List ResultVar, resE P rs a H = (resB P rs).val tm H
  | [] => rfl
  | .tmp t :: rs => by
    have e1 : resB P (.tmp t :: rs) = bx (resB P rs) fun r => .mk fun tm H => ob (r tm H) fun l => some (tm.get t :: l) := rfl
    rw [e1, bx_eq, val_mk, ← resE_eq h H rs, ← h]
    rfl
  | .cell c t :: rs => by
    have e1 : resB P (.cell c t :: rs) = bx (resB P rs) fun r => (match partF (aggT P t) with
      | none => .mk fun _ _ => none
      | some part => .mk fun tm H => onPtr none (fun b o => ob (ob (cellsTo none H b fun _ cs => part cs o) clearA) fun v => ob (r tm H) fun l => some (v :: l)) (tm.get c)) := rfl
    have e2 : resE P (.cell c t :: rs) a H = resR (partF (aggT P t)) H (a c) (resE P rs a H) := rfl
    rw [e1, e2, bx_eq, resE_eq h H rs]
    unfold resR
    cases partF (aggT P t) <;> simp only [val_mk, ob_some, ob_none, h]
def endP (r : Option (List AV)) (K : AV → AH → Prop) (H : AH) : Prop := @Option.rec (List AV) (fun _ => Prop) False (fun l => K (tupA l) H) r
abbrev finP (P : Program) (rs : List ResultVar) (K : AV → AH → Prop) : KP := fun e a H =>
  @Ex.rec (fun _ => Prop) (endP (resE P rs a H) K H) (fun _ => False) (endP (resE P rs a H) K H) e

def funP (P : Program) (C : CW) (f : FuncId) (args : List AV) (H : AH) (K : AV → AH → Prop) : Prop := match P.funcs[f]? with
  | none => False
  | some fn => match fn.body with
    | none => False
    | some c => br (codeOk P fn.ntmps c) (br (Nat.ble args.length fn.ntmps) (codeP P C c (finP P fn.results.toList K) (argE args) H) False) False

theorem start_eq {n : Nat} {args : List AV} (hn : args.length ≤ n) : TmEq n (putAll args 0 (TM0.full (depthOf (n + 1) n))) (argE args) := by
  obtain ⟨h1, h2⟩ := putAll_get args 0 (TM0.full (depthOf (n + 1) n)) (fun j hj => full_has _ _ _ (by omega) (by omega))
  refine ⟨fun i => ?_, fun i hi => by rw [h1]; exact full_has _ _ _ (by omega) hi⟩
  rw [h2, full_get]
  unfold argE
  rw [nthO_eq]
  by_cases h : i < args.length
  · rw [if_pos ⟨Nat.zero_le _, by omega⟩, List.getElem?_eq_getElem h]; simp [List.getD_eq_getElem?_getD, List.getElem?_eq_getElem h]
  · rw [if_neg (by omega), List.getElem?_eq_none (by omega)]

theorem funP_ok {prim : PrimF} {f : FuncId} {args : List AV} {H : AH} {K : AV → AH → Prop} (hp : prim f = none) (hb : hasBody P f = true) (h : funP P (WP P prim) f args H K) : (WP P prim).call f args H K := by
  unfold funP at h
  split at h
  · exact h.elim
  · rename_i fn hf
    split at h
    · exact h.elim
    · rename_i c hc
      rw [br_eq] at h
      split at h
      · rename_i hok
        rw [br_eq] at h
        split at h
        · rename_i hle
          have hle' : args.length ≤ fn.ntmps := by simpa using hle
          obtain ⟨n, e, tm', a', H', h1, ht, h2⟩ := codeP_ok f none fn.ntmps c _ _ _ H hok (start_eq hle') h
          have res : ∃ l, (resB P fn.results.toList).val tm' H' = some l ∧ K (tupA l) H' ∧ ∀ id, e ≠ .exit id := by
            cases e with
            | exit id => exact h2.elim
            | normal =>
              have h2 : endP (resE P fn.results.toList a' H') K H' := h2
              rw [resE_eq ht.get] at h2
              unfold endP at h2
              cases hr : (resB P fn.results.toList).val tm' H' with
              | none => rw [hr] at h2; exact h2.elim
              | some l => rw [hr] at h2; exact ⟨l, rfl, h2, by simp⟩
            | ret =>
              have h2 : endP (resE P fn.results.toList a' H') K H' := h2
              rw [resE_eq ht.get] at h2
              unfold endP at h2
              cases hr : (resB P fn.results.toList).val tm' H' with
              | none => rw [hr] at h2; exact h2.elim
              | some l => rw [hr] at h2; exact ⟨l, rfl, h2, by simp⟩
          obtain ⟨l, hl, hk, hne⟩ := res
          refine ⟨n + 1, tupA l, H', fun m hm => ?_, hk⟩
          obtain ⟨m, rfl⟩ : ∃ k, m = k + 1 := ⟨m - 1, by omega⟩
          show callStep P prim (evBoth P prim m).1 (evBoth P prim m).2 m f args H = _
          unfold callStep
          rw [hp]
          show bx (funB P f) (fun g => g (evBoth P prim m).1 (evBoth P prim m).2 m args H) = _
          unfold funB
          rw [hb, br_true, hf]
          simp only [hc, hok, br_true, bx_eq, val_mk, hle]
          rw [h1 m (by omega) []]
          cases e with
          | exit id => exact absurd rfl (hne id)
          | normal => simp [leaveA, closeMarks, hl]
          | ret => simp [leaveA, closeMarks, hl]
        · exact h.elim
      · exact h.elim

/-! Loops. -/
theorem loopP_iso {S : Type} {F : KE → KE} (π : TE → S) (F' : (S → AH → Prop) → S → AH → Prop) (h : ∀ (rec : S → AH → Prop) (a : TE) (H : AH), F (fun a H => rec (π a) H) a H = F' rec (π a) H) (a : TE) (H : AH) :
    loopP F a H = loopP F' (π a) H := by
  have key : ∀ n, iterP F n = fun a H => iterP F' n (π a) H := by
    intro n
    induction n with
    | zero => rfl
    | succ n ih =>
      funext a H
      show F (iterP F n) a H = F' (iterP F' n) (π a) H
      rw [ih]
      exact h _ a H
  unfold loopP
  simp only [key]

/-- A loop by what holds at its head and what every round lowers. -/
theorem loopP_rule {S : Type} {F : (S → AH → Prop) → S → AH → Prop} (I : S → AH → Prop) (μ : S → AH → Nat)
    (step : ∀ s H, I s H → ∀ rec : S → AH → Prop, (∀ s' H', I s' H' → μ s' H' < μ s H → rec s' H') → F rec s H) {s : S} {H : AH} (h : I s H) : loopP F s H := by
  have key : ∀ n s H, μ s H < n → I s H → iterP F n s H := by
    intro n
    induction n with
    | zero => intro s H hn; omega
    | succ n ih =>
      intro s H hn hI
      exact step s H hI (iterP F n) fun s' H' h1 h2 => ih s' H' (by omega) h1
  exact ⟨_, key (μ s H + 1) s H (Nat.lt_succ_self _) h⟩

end
end Go.Ab
end

section
/- The words of the printed functions: each operation, its types known. -/

namespace Go.Ab
noncomputable section

def w_pick (H : AH) (c a b : AV) : Option Out := vO H (pickA c a b)
def w_int (op : BinOp) (H : AH) (x y : AV) : Option Out := vO H ((binI' (binI op)).val x y)
def w_str (op : BinOp) (H : AH) (x y : AV) : Option Out := vO H ((binS' (binS op)).val x y)
def w_sh (op : BinOp) (H : AH) (x y : AV) : Option Out := vO H ((match shiftF op with
  | some f => onInts none fun k a _ b => f k a b
  | none => fun _ _ => none) x y)
def w_eq (P : Program) (op : BinOp) (t : TypeId) (cx cy : Bool) (H : AH) (x y : AV) : Option Out := vO H ((binE P t cx cy (eqOp op)).val x y)
def w_un (op : UnOp) (H : AH) (x : AV) : Option Out := match unA op with
  | some f => vO H (f x)
  | none => none
def w_load (q : Option Nat) (H : AH) (v : AV) : Option Out := (oLoad (fun _ => v) (cellsQ (some q)) (partF (some q))).val .leaf H none
def w_store (n : Nat) (H : AH) (p v : AV) : Option Out := (oStore (fun _ => p) (fun _ => v) (some n)).val .leaf H none
def w_alloc (e : TypeId) (cs : List AV) (H : AH) (at_ : Option Nat) : Option Out := newVar e cs H at_
def w_box (e : TypeId) (H : AH) (v : AV) (at_ : Option Nat) : Option Out := (oBox e (fun _ => v)).val .leaf H at_
def w_build (P : Program) (t : TypeId) (H : AH) (l : List (Nat × AV)) : Option Out := (oBuild (fun _ => l) (zeroA P t) (placesA P t)).val .leaf H none
def w_buildSlice (P : Program) (e : TypeId) (n : Nat) (H : AH) (l : List (Nat × AV)) (at_ : Option Nat) : Option Out := (oBuildSlice n (fun _ => l) (some e) (elT P)).val .leaf H at_
def w_nil (H : AH) (x : AV) : Option Out := (oNilCheck fun _ => x).val .leaf H none
def w_conv (k : CK) (H : AH) (x : AV) (at_ : Option Nat) : Option Out := (oConv (fun _ => x) (some k)).val .leaf H at_
def w_slice (k : SK) (hasHi hasMx : Bool) (H : AH) (x : AV) (lo hi mx : Option AV) : Option Out := vO H ((sliceA hasHi hasMx k).val x lo hi mx)
def w_fieldAddr (off : Nat) (H : AH) (x : AV) : Option Out := (oFieldAddr (fun _ => x) (some off)).val .leaf H none
def w_field (q : Option Nat) (off : Nat) (H : AH) (x : AV) : Option Out := match partF (some q) with
  | some part => vO H (fieldA off part x)
  | none => none
def w_indexAddr (k : SK) (H : AH) (x i : AV) : Option Out := (oIndexAddr (fun _ => x) (fun _ => i) (some k)).val .leaf H none
def w_index (P : Program) (t : TypeId) (H : AH) (x i : AV) : Option Out := (oIndex (fun _ => x) (fun _ => i) (indexA P t)).val .leaf H none
def w_makeSlice (P : Program) (e : TypeId) (H : AH) (l c : AV) (at_ : Option Nat) : Option Out := (oMakeSlice P (fun _ => l) (fun _ => c) (some e)).val .leaf H at_
def w_makeMap (H : AH) (at_ : Option Nat) : Option Out := (oMap none).val .leaf H at_
def w_lookup (P : Program) (kt et : TypeId) (ok : Bool) (H : AH) (m k : AV) : Option Out := (oLookup P (fun _ => m) (fun _ => k) ok (some (kt, et))).val .leaf H none
def w_mapUpdate (P : Program) (kt et : TypeId) (H : AH) (m k v : AV) : Option Out := (oMapUpdate P (fun _ => m) (fun _ => k) (fun _ => v) (some (kt, et))).val .leaf H none
def w_range (t : Option (TypeId × TypeId)) (H : AH) (x : AV) (at_ : Option Nat) : Option Out := (oRange (fun _ => x) t).val .leaf H at_
def w_next (H : AH) (x : AV) : Option Out := nextV H x
def w_entry (H : AH) (x : AV) : Option Out := entryV H x
def w_assert (P : Program) (t : TypeId) (ok : Bool) (H : AH) (x : AV) : Option Out := (oAssert P (fun _ => x) t ok (P.underlying t)).val .leaf H none
def w_extract (i : Nat) (H : AH) (x : AV) : Option Out := vO H (extractA i x)
def w_append (e sz by_ : Nat) (H : AH) (s x : AV) (at_ : Option Nat) : Option Out := ob2 (newCells sz x H) fun n new => appendTo e sz by_ s n new H at_
def w_appendZ (e sz by_ : Nat) (z : List AV) (H : AH) (s x : AV) (at_ : Option Nat) : Option Out := ob2 (newZeros by_ z x) fun n new => appendTo e sz by_ s n new H at_
def w_copy (P : Program) (dt : TypeId) (H : AH) (d s : AV) : Option Out := (oArgs2 (fun _ => d) (fun _ => s) (copyF P dt)).val .leaf H none
def w_clear (P : Program) (t : TypeId) (H : AH) (x : AV) : Option Out := (oArgs1 (fun _ => x) (clearF P t)).val .leaf H none
def w_delete (P : Program) (t : TypeId) (H : AH) (m k : AV) : Option Out := (oArgs2d (fun _ => m) (fun _ => k) (deleteF P t)).val .leaf H none
def w_len (P : Program) (t : TypeId) (H : AH) (x : AV) : Option Out := (oArgs1v (fun _ => x) (lenF P t)).val .leaf H none
def w_cap (P : Program) (t : TypeId) (H : AH) (x : AV) : Option Out := (oArgs1p (fun _ => x) (capF P t)).val .leaf H none
def w_min2 (H : AH) (x y : AV) : Option Out := vO H (min2A x y)
def w_max2 (H : AH) (x y : AV) : Option Out := vO H (max2A x y)
def w_min (H : AH) (x : AV) (l : List AV) : Option Out := vO H (foldA min2A x l)
def w_max (H : AH) (x : AV) (l : List AV) : Option Out := vO H (foldA max2A x l)

def resC (P : Program) (f : FuncId) : List ResultVar := match P.funcs[f]? with
  | some fn => fn.results.toList
  | none => []

/-- A code's part. -/
def subC (c : Code) (l : List Nat) : Code := @List.rec Nat (fun _ => Code → Code) (fun c => c) (fun i _ ih c => match c with
  | .seq a b => match i with
    | 0 => ih a
    | _ => ih b
  | .cond _ a b => match i with
    | 0 => ih a
    | _ => ih b
  | .block _ a => ih a
  | .loop a => ih a
  | c => c) l c
def bodyC (P : Program) (f : FuncId) : Code := match P.funcs[f]? with
  | some fn => match fn.body with
    | some c => c
    | none => .skip
  | none => .skip

/-- The order of a drawn region, as a number (for a tool). -/
def encIns (l : List Ins) : Nat := @List.rec Ins (fun _ => Nat) 1 (fun x _ ih => Nat.add (Nat.mul ih 65536) (match x with | .go i => 2 * i | .re i => 2 * i + 1)) l
def regOps (c : Code) (id : Nat) : Option (Array Oper) := @Code.rec (fun _ => Option (Array Oper)) none (fun i ops _ => br (Nat.beq i id) (some ops) none)
  (fun _ _ a b => @Option.rec _ (fun _ => Option (Array Oper)) b (fun x => some x) a) (fun _ _ _ a b => @Option.rec _ (fun _ => Option (Array Oper)) b (fun x => some x) a) (fun _ _ a => a) (fun _ a => a)
  (fun _ _ _ _ a b => @Option.rec _ (fun _ => Option (Array Oper)) b (fun x => some x) a) (fun _ => none) (fun _ a => a) (fun _ => none) (fun _ => none) none (fun _ => none) c
def encReg (P : Program) (f id : Nat) : Nat := match regOps (bodyC P f) id with
  | none => 0
  | some ops => match sched P ops with
    | none => 0
    | some l => encIns l

end
end Go.Ab
end

section
/- The words, worked out on what is known. -/

namespace Go.Ab
variable {P : Program} {C : CW} {H : AH}

/-! Steps. -/
theorem st {out : Option Out} {v : AV} {H' : AH} {K : AV → AH → Prop} (h : out = some (.val v H')) (k : K v H') : outP C H out K := by subst h; exact k
theorem outP_val (v : AV) (H' : AH) (K : AV → AH → Prop) : outP C H (some (.val v H')) K = K v H' := rfl
theorem outP_skip (H' : AH) (K : AV → AH → Prop) : outP C H (some (.skip H')) K = K undefA H' := rfl
theorem outP_enter (f : FuncId) (l : List AV) (K : AV → AH → Prop) : outP C H (some (.enter f l)) K = C.call f l H K := rfl
theorem guardP_true (X : (AV → AH → Prop) → Prop) (K : AV → AH → Prop) : guardP true H X K = X K := rfl
theorem guardP_false (X : (AV → AH → Prop) → Prop) (K : AV → AH → Prop) : guardP false H X K = K undefA H := rfl
theorem condP_true (x y : Prop) : condP (.bool true) x y = x := rfl
theorem condP_false (x y : Prop) : condP (.bool false) x y = y := rfl
theorem condP_bool (b : Bool) (x y : Prop) : condP (.bool b) x y ↔ (b = true → x) ∧ (b = false → y) := by cases b <;> simp [condP]
theorem ckP_true (x : Prop) : ckP true x = x := rfl
theorem boolIs_bool (w b : Bool) : boolIs w (.bool b) = (b == w) := rfl
theorem boolIs_undef (w : Bool) : boolIs w undefA = false := rfl
theorem reC_val (v : AV) (H' : AH) (d : AV) : reC true (some (.val v H')) d = AV.beq v d := rfl
theorem reC_false (o : Option Out) (d : AV) : reC false o d = true := rfl

/-! Heaps. -/
noncomputable def AH.new (H : AH) (x : ABlk) : AH := ⟨H.tr.put H.next (some x), H.next + 1⟩
theorem newTo_none_eq {β : Type} (H : AH) (x : ABlk) (k : Nat → AH → β) : H.newTo none x k = k H.next (H.new x) := AH.newTo_none H x k
theorem get_new (H : AH) (x : ABlk) (b : Nat) : (H.new x).get b = if b = H.next then some x else H.get b := Tr.get_put _ _ _ _
theorem get_new_same (H : AH) (x : ABlk) : (H.new x).get H.next = some x := by rw [get_new, if_pos rfl]
theorem next_new (H : AH) (x : ABlk) : (H.new x).next = H.next + 1 := rfl
theorem get_more (H : AH) (n b : Nat) : (H.more n).get b = H.get b := rfl
theorem next_more (H : AH) (n : Nat) : (H.more n).next = H.next + n := rfl
theorem newTo_some_eq {β : Type} (H : AH) (b : Nat) (x : ABlk) (k : Nat → AH → β) : H.newTo (some b) x k = k b (H.put b (some x)) := AH.newTo_some H b x k

/-- Behind a call: what was there is there, but for some blocks. -/
structure Ext (mods : List Nat) (H H' : AH) : Prop where
  next : H.next ≤ H'.next
  same : ∀ b, b < H.next → b ∉ mods → H'.get b = H.get b
theorem Ext.refl (mods : List Nat) (H : AH) : Ext mods H H := ⟨Nat.le_refl _, fun _ _ _ => rfl⟩
theorem Ext.trans {m : List Nat} {H H1 H2 : AH} (h : Ext m H H1) (k : Ext m H1 H2) : Ext m H H2 :=
  ⟨Nat.le_trans h.next k.next, fun b hb hm => by rw [k.same b (Nat.lt_of_lt_of_le hb h.next) hm, h.same b hb hm]⟩
theorem Ext.mono {m m' : List Nat} {H H1 : AH} (h : Ext m H H1) (k : ∀ b ∈ m, b < H.next → b ∈ m') : Ext m' H H1 :=
  ⟨h.next, fun b hb hm => h.same b hb fun q => hm (k b q hb)⟩
theorem Ext.new {m : List Nat} {H H1 : AH} (h : Ext m H H1) (x : ABlk) : Ext m H (H1.new x) :=
  ⟨Nat.le_succ_of_le h.next, fun b hb hm => by rw [get_new, if_neg (by have := h.next; omega), h.same b hb hm]⟩
theorem Ext.more {m : List Nat} {H H1 : AH} (h : Ext m H H1) (n : Nat) : Ext m H (H1.more n) := ⟨by rw [next_more]; have := h.next; omega, h.same⟩
theorem Ext.put {m : List Nat} {H H1 : AH} (h : Ext m H H1) {b : Nat} (hb : H.next ≤ b ∨ b ∈ m) (x : Option ABlk) : Ext m H (H1.put b x) :=
  ⟨h.next, fun c hc hm => by
    rw [AH.get_put, if_neg]
    · exact h.same c hc hm
    · rintro rfl; rcases hb with hb | hb
      · omega
      · exact hm hb⟩
theorem Ext.get {m : List Nat} {H H1 : AH} (h : Ext m H H1) {b : Nat} (hb : b < H.next) (hm : b ∉ m) {x : ABlk} (hx : H.get b = some x) : H1.get b = some x := by rw [h.same b hb hm]; exact hx

/-! Numbers. -/
theorem vO_some (v : AV) : vO H (some v) = some (.val v H) := rfl
theorem wrap64_in {x : Int} (h1 : -9223372036854775808 ≤ x) (h2 : x ≤ 9223372036854775807) : IntKind.i64.wrap x = x := by
  refine wrap_of_fits ?_
  cases x with
  | ofNat m => simp only [fits, fitsS, Nat.blt_eq]; simp only [Int.ofNat_eq_natCast] at h2; omega
  | negSucc m => simp only [fits, fitsS, Nat.blt_eq]; omega
theorem wrap32_in {x : Int} (h1 : -2147483648 ≤ x) (h2 : x ≤ 2147483647) : IntKind.i32.wrap x = x := by
  refine wrap_of_fits ?_
  cases x with
  | ofNat m => simp only [fits, fitsS, Nat.blt_eq]; simp only [Int.ofNat_eq_natCast] at h2; omega
  | negSucc m => simp only [fits, fitsS, Nat.blt_eq]; omega
theorem w_int_of {op : BinOp} {f : IntKind → Int → Int → Option AV} (h : binI op = some f) (k : IntKind) (a b : Int) : w_int op H (.int k a) (.int k b) = vO H (f k a b) := by
  have hk : kEq k k = true := kEq_iff.2 rfl
  simp only [w_int, h, binI', val_mk, onInts, hk, br_true]
theorem w_add (k : IntKind) (a b : Int) : w_int .add H (.int k a) (.int k b) = some (.val (.int k (k.wrap (a + b))) H) := by
  rw [w_int_of rfl, wrapZ_eq]; rfl
theorem w_sub (k : IntKind) (a b : Int) : w_int .sub H (.int k a) (.int k b) = some (.val (.int k (k.wrap (a - b))) H) := by
  rw [w_int_of rfl, wrapZ_eq]; rfl
theorem w_mul (k : IntKind) (a b : Int) : w_int .mul H (.int k a) (.int k b) = some (.val (.int k (k.wrap (a * b))) H) := by
  rw [w_int_of rfl, wrapZ_eq]; rfl
theorem w_quo (k : IntKind) (a b : Int) (h : b ≠ 0) : w_int .quo H (.int k a) (.int k b) = some (.val (.int k (k.wrap (a.tdiv b))) H) := by
  have hb : eqZ b 0 = false := by rw [eqZ_eq]; simpa using h
  rw [w_int_of rfl, hb, br_false, wrapZ_eq]; rfl
theorem w_rem (k : IntKind) (a b : Int) (h : b ≠ 0) : w_int .rem H (.int k a) (.int k b) = some (.val (.int k (a.tmod b)) H) := by
  have hb : eqZ b 0 = false := by rw [eqZ_eq]; simpa using h
  rw [w_int_of rfl, hb, br_false]; rfl
theorem beq_dec (a b : Int) : (a == b) = decide (a = b) := by rw [Bool.eq_iff_iff]; simp
theorem w_eql (k : IntKind) (a b : Int) : w_int .eql H (.int k a) (.int k b) = some (.val (.bool (decide (a = b))) H) := by
  rw [w_int_of rfl, eqZ_eq, beq_dec]; rfl
theorem w_neq (k : IntKind) (a b : Int) : w_int .neq H (.int k a) (.int k b) = some (.val (.bool (!decide (a = b))) H) := by
  rw [w_int_of rfl, eqZ_eq, beq_dec]; rfl
theorem w_lss (k : IntKind) (a b : Int) : w_int .lss H (.int k a) (.int k b) = some (.val (.bool (decide (a < b))) H) := by
  rw [w_int_of rfl, ltZ_eq]; rfl
theorem w_leq (k : IntKind) (a b : Int) : w_int .leq H (.int k a) (.int k b) = some (.val (.bool (decide (a ≤ b))) H) := by
  rw [w_int_of rfl, leZ_eq]; rfl
theorem w_gtr (k : IntKind) (a b : Int) : w_int .gtr H (.int k a) (.int k b) = some (.val (.bool (decide (b < a))) H) := by
  rw [w_int_of rfl, ltZ_eq]; rfl
theorem w_geq (k : IntKind) (a b : Int) : w_int .geq H (.int k a) (.int k b) = some (.val (.bool (decide (b ≤ a))) H) := by
  rw [w_int_of rfl, leZ_eq]; rfl
theorem w_not (b : Bool) : w_un .not H (.bool b) = some (.val (.bool (!b)) H) := rfl
theorem w_neg (k : IntKind) (a : Int) : w_un .neg H (.int k a) = some (.val (.int k (k.wrap (-a))) H) := by
  simp only [w_un, unA, vO, ob_some, wrapZ_eq]
  congr 4; show Int.sub 0 a = _; exact Int.zero_sub a
theorem w_pick_b (b : Bool) (x y : AV) : w_pick H (.bool b) x y = some (.val (if b then x else y) H) := by cases b <;> rfl
theorem w_cint (k q : IntKind) (a : Int) (at_ : Option Nat) : w_conv (.int k) H (.int q a) at_ = some (.val (.int k (k.wrap a)) H) := by
  simp [w_conv, oConv]
theorem w_min2_int (k : IntKind) (a b : Int) : w_min2 H (.int k a) (.int k b) = some (.val (.int k (min a b)) H) := by
  simp only [w_min2, min2A, onInts, vO, ltZ_eq, br_eq, ob_some]
  congr 3; by_cases h : b < a <;> simp [h] <;> omega
theorem w_max2_int (k : IntKind) (a b : Int) : w_max2 H (.int k a) (.int k b) = some (.val (.int k (max a b)) H) := by
  simp only [w_max2, max2A, onInts, vO, ltZ_eq, br_eq, ob_some]
  congr 3; by_cases h : a < b <;> simp [h] <;> omega

/-! Memory. -/
theorem w_box_one {e : TypeId} {v : AV} (h : v.parts.all AV.one = true) : w_box e H v none = some (.val (.ptr (some (H.next, 0))) (H.new (.cells e v.parts))) := by
  simp only [w_box, oBox, val_mk, allB_eq, h, br_true, newVar, newTo_none_eq]
theorem w_box_at {e : TypeId} {v : AV} {b : Nat} (h : v.parts.all AV.one = true) : w_box e H v (some b) = some (.val (.ptr (some (b, 0))) (H.put b (some (.cells e v.parts)))) := by
  simp only [w_box, oBox, val_mk, allB_eq, h, br_true, newVar, newTo_some_eq]
theorem w_alloc_none (e : TypeId) (cs : List AV) : w_alloc e cs H none = some (.val (.ptr (some (H.next, 0))) (H.new (.cells e cs))) := by
  simp only [w_alloc, newVar, newTo_none_eq]
theorem w_alloc_at (e : TypeId) (cs : List AV) (b : Nat) : w_alloc e cs H (some b) = some (.val (.ptr (some (b, 0))) (H.put b (some (.cells e cs)))) := by
  simp only [w_alloc, newVar, newTo_some_eq]
theorem w_fieldAddr_ptr (off b o : Nat) : w_fieldAddr off H (.ptr (some (b, o))) = some (.val (.ptr (some (b, o + off))) H) := rfl
theorem w_load_cell {b o : Nat} {e : TypeId} {cs : List AV} {v : AV} (h : H.get b = some (.cells e cs)) (hv : cs[o]? = some v) (hk : v.known = true) (hn : ∀ l, v ≠ .agg l) : w_load none H (.ptr (some (b, o))) = some (.val v H) := by
  have hc : clearA v = some v := by
    cases v <;> first | rfl | (cases hk; done) | exact absurd rfl (hn _)
  simp only [w_load, oLoad, partF, val_mk, onPtr, rowTo, h, nthO_eq, hv, ob_some, hc, vO]
theorem w_load_agg {b o n : Nat} {e : TypeId} {cs : List AV} {l : List AV} (h : H.get b = some (.cells e cs)) (ho : o + n ≤ cs.length) (hv : (cs.drop o).take n = l) (hk : l.all AV.known = true) : w_load (some n) H (.ptr (some (b, o))) = some (.val (.agg l) H) := by
  have hc : clearA (.agg l) = some (.agg l) := by simp [clearA, allB_eq, hk]
  simp only [w_load, oLoad, partF, val_mk, onPtr, rowTo, h, cut_eq, if_pos ho, hv, ob_some, hc, vO]
theorem roList_of {f : Nat → Option AV} : ∀ {n o : Nat} {l : List AV}, l.length = n → (∀ i x, l[i]? = some x → f (o + i) = some x) → roList f o n = some l
  | 0, o, l, h, _ => by rw [List.length_eq_zero_iff.1 h]; rfl
  | n + 1, o, [], h, _ => by simp at h
  | n + 1, o, x :: l, h, hf => by
    show ob (f o) (fun x => ob (roList f (o + 1) n) fun l => some (x :: l)) = _
    rw [show f o = some x from hf 0 x rfl, ob_some, roList_of (l := l) (by simpa using h) (fun i y hy => by rw [← hf (i + 1) y (by simpa using hy)]; congr 1; omega), ob_some]
theorem w_load_ro {b o : Nat} {ob' : Obj} {f : Nat → Option AV} {v : AV} (h : H.get b = some (.ro ob' f)) (hv : f o = some v) (hk : v.known = true) (hn : ∀ l, v ≠ .agg l) : w_load none H (.ptr (some (b, o))) = some (.val v H) := by
  have hc : clearA v = some v := by
    cases v <;> first | rfl | (cases hk; done) | exact absurd rfl (hn _)
  have hr : roList f o 1 = some [v] := roList_of rfl fun i x hx => by
    cases i with
    | zero => simp at hx; subst hx; exact hv
    | succ i => simp at hx
  simp only [w_load, oLoad, partF, val_mk, onPtr, rowTo, h, cellsQ, hr, ob_some, nthO_eq, List.getElem?_cons_zero, hc, vO]
theorem w_load_ro_agg {b o n : Nat} {ob' : Obj} {f : Nat → Option AV} {l : List AV} (h : H.get b = some (.ro ob' f)) (hl : l.length = n) (hv : ∀ i x, l[i]? = some x → f (o + i) = some x) (hk : l.all AV.known = true) : w_load (some n) H (.ptr (some (b, o))) = some (.val (.agg l) H) := by
  have hc : clearA (.agg l) = some (.agg l) := by simp [clearA, allB_eq, hk]
  have hr := roList_of (f := f) (o := o) hl hv
  simp only [w_load, oLoad, partF, val_mk, onPtr, rowTo, h, cellsQ, hr, ob_some, cut_eq, hl, Nat.zero_add, Nat.le_refl, if_true, List.drop_zero, List.take_of_length_le (Nat.le_of_eq hl), hc, vO]
theorem writeA_eq {b o : Nat} {e : TypeId} {cs vs : List AV} (h : H.get b = some (.cells e cs)) (hv : vs ≠ []) (ho : o + vs.length ≤ cs.length) : writeA H b o vs = some (H.put b (some (.cells e (cs.take o ++ (vs ++ cs.drop (o + vs.length)))))) := by
  cases vs with
  | nil => exact absurd rfl hv
  | cons v vs => simp only [writeA, cellsTo, h, over_eq, if_pos ho, ob_some, AH.putTo_eq]
theorem w_store_cells {b o n : Nat} {e : TypeId} {cs : List AV} {v : AV} (h : H.get b = some (.cells e cs)) (hn : v.parts.length = n) (hv : v.parts ≠ []) (ho : o + n ≤ cs.length) (h1 : v.parts.all AV.one = true) :
    w_store n H (.ptr (some (b, o))) v = some (.skip (H.put b (some (.cells e (cs.take o ++ (v.parts ++ cs.drop (o + n))))))) := by
  have hl : lenN v.parts n = true := (lenN_iff _ _).2 hn
  have hw := writeA_eq (o := o) h hv (by omega)
  simp only [w_store, oStore, val_mk, onPtr, hl, allB_eq, h1, br_true, sO, hw, ob_some, hn]
theorem w_nil_ptr (b o : Nat) : w_nil H (.ptr (some (b, o))) = some (.val (.ptr (some (b, o))) H) := rfl
theorem w_idx_sl {sz b o n c : Nat} {ex : Bool} {k : IntKind} {j : Nat} (hj : j < n) : w_indexAddr (.sl sz) H (.slice (some (b, o)) n c ex) (.int k j) = some (.val (.ptr (some (b, o + j * sz))) H) := by
  have : Nat.blt j n = true := by simpa using hj
  simp only [w_indexAddr, oIndexAddr, val_mk, idxSl, idxA, show natZ (j : Int) = some j from rfl, ob_some, this, br_true, vO]
  rfl
end Go.Ab
end

section
/- What is known of functions, put together: functions without a body, closed runs. -/

namespace Go.Ab
variable {P : Program}

/-- What is known of one function. -/
def PrimAt (P : Program) (f : FuncId) (g : List AV → AH → Option (AV × AH)) : Prop := ∀ {args : List AV} {args' : Array Value} {ρ : Env} {H : AH} {w : World} {v : AV} {H' : AH}, g args H = some (v, H') → Real P ρ H w → RelL ρ args args'.toList →
  (hasBody P f = true → ∀ n, CallsIn Fence.wide n P f args' w (Ret P ρ H w v H')) ∧ (hasBody P f = false → ∃ v' ρ' w', (callFunc f args').run P w = .ok (.value v') w' ∧ Rel ρ' v v' ∧ Good none P ρ H w ρ' H' w')
noncomputable def addP (f0 : FuncId) (g0 : List AV → AH → Option (AV × AH)) (prim : PrimF) : PrimF := fun f => br (Nat.beq f f0) (some g0) (prim f)
theorem primOk_none : PrimOk P (fun _ => none) := fun h => by cases h
theorem PrimOk.add {f0 : FuncId} {g0 : List AV → AH → Option (AV × AH)} {prim : PrimF} (h : PrimOk P prim) (h0 : PrimAt P f0 g0) : PrimOk P (addP f0 g0 prim) := by
  intro f g args args' ρ H w v H' hf hg hr ha
  unfold addP at hf
  rw [br_eq] at hf
  split at hf
  · rename_i e
    obtain rfl := Nat.eq_of_beq_eq_true e
    cases hf
    exact h0 hg hr ha
  · exact h hf hg hr ha

/-- A function without a body. -/
theorem ext_at {f : FuncId} {fn : Func} {e : Array Value → Sem Value} {g : List AV → AH → Option (AV × AH)} (hf : P.funcs[f]? = some fn) (hb : fn.body.isNone = true) (hn : (fn.name == "runtime.NumGoroutine") = false) (h1 : Extern.findNext fn = none) (h2 : Extern.find fn = some e) (hnb : hasBody P f = false)
    (sound : ∀ {args : List AV} {args' : Array Value} {ρ : Env} {H : AH} {w : World} {v : AV} {H' : AH}, g args H = some (v, H') → Real P ρ H w → RelL ρ args args'.toList → ∃ v' ρ' w', (e args').run P w = .ok v' w' ∧ Rel ρ' v v' ∧ Good none P ρ H w ρ' H' w') : PrimAt P f g := by
  intro args args' ρ H w v H' hg hr ha
  refine ⟨fun q => (by rw [hnb] at q; cases q), fun _ => ?_⟩
  obtain ⟨v', ρ', w', r1, r2, r3⟩ := sound hg hr ha
  exact ⟨v', ρ', w', ext_run hf hb hn h1 h2 r1, r2, r3⟩

theorem sound_typeOf {rt : TypeId} (hrt : dry P (cutType "internal/reflectlite.rtype") = some rt) : ∀ {args : List AV} {args' : Array Value} {ρ : Env} {H : AH} {w : World} {v : AV} {H' : AH}, typeOfA P rt args H = some (v, H') → Real P ρ H w → RelL ρ args args'.toList → ∃ v' ρ' w', (Extern.ReflectliteType.typeOf args').run P w = .ok v' w' ∧ Rel ρ' v v' ∧ Good none P ρ H w ρ' H' w' := by
  intro args args' ρ H w v H' hg hr ha
  obtain ⟨rfl, v', h1, h2⟩ := typeOf_run hg (fun w => dry_run _ hrt w) hr.hand ha
  exact ⟨v', ρ, w, h1, h2, hr.good⟩
noncomputable def valueOfA (P : Program) (args : List AV) (H : AH) : Option (AV × AH) := match args with
  | [x] => unpackA P x H
  | _ => none
theorem sound_valueOf : ∀ {args : List AV} {args' : Array Value} {ρ : Env} {H : AH} {w : World} {v : AV} {H' : AH}, valueOfA P args H = some (v, H') → Real P ρ H w → RelL ρ args args'.toList → ∃ v' ρ' w', (Extern.ReflectliteValue.unpack (args'.getD 0 (.tuple #[]))).run P w = .ok v' w' ∧ Rel ρ' v v' ∧ Good none P ρ H w ρ' H' w' := by
  intro args args' ρ H w v H' hg hr ha
  unfold valueOfA at hg
  split at hg
  · obtain ⟨y, ys, e1, r1, e2⟩ := ha
    cases e2
    have : args' = #[y] := by apply Array.ext'; simpa using e1
    subst this
    exact unpack_run hr hr.hand hg r1
  · cases hg
theorem sound_vType {rt : TypeId} (hrt : dry P (cutType "internal/reflectlite.rtype") = some rt) : ∀ {args : List AV} {args' : Array Value} {ρ : Env} {H : AH} {w : World} {v : AV} {H' : AH}, vTypeA P rt args H = some (v, H') → Real P ρ H w → RelL ρ args args'.toList → ∃ v' ρ' w', (Extern.ReflectliteValue.methodAny (Extern.ReflectliteValue.valueError "reflectlite.Value.Type" 0) (fun t _ _ _ => Extern.ReflectliteType.toType t) args').run P w = .ok v' w' ∧ Rel ρ' v v' ∧ Good none P ρ H w ρ' H' w' := by
  intro args args' ρ H w v H' hg hr ha
  obtain ⟨rfl, v', h1, h2⟩ := vType_run hr.hand hg (fun w => dry_run _ hrt w) ha
  exact ⟨v', ρ, w, h1, h2, hr.good⟩
theorem sound_vKind : ∀ {args : List AV} {args' : Array Value} {ρ : Env} {H : AH} {w : World} {v : AV} {H' : AH}, vKindA P args H = some (v, H') → Real P ρ H w → RelL ρ args args'.toList → ∃ v' ρ' w', (Extern.ReflectliteValue.method (pure (.int .u8 0)) (fun _ _ _ k => pure (.int .u8 (Int.ofNat k))) args').run P w = .ok v' w' ∧ Rel ρ' v v' ∧ Good none P ρ H w ρ' H' w' := by
  intro args args' ρ H w v H' hg hr ha
  obtain ⟨rfl, v', h1, h2⟩ := vKind_run hr.hand hg ha
  exact ⟨v', ρ, w, h1, h2, hr.good⟩
theorem sound_vNil : ∀ {args : List AV} {args' : Array Value} {ρ : Env} {H : AH} {w : World} {v : AV} {H' : AH}, vNilA P args H = some (v, H') → Real P ρ H w → RelL ρ args args'.toList → ∃ v' ρ' w', (Extern.ReflectliteValue.method (Extern.ReflectliteValue.valueError "reflectlite.Value.IsNil" 0) Extern.ReflectliteValue.isNil args').run P w = .ok v' w' ∧ Rel ρ' v v' ∧ Good none P ρ H w ρ' H' w' := by
  intro args args' ρ H w v H' hg hr ha
  obtain ⟨rfl, v', h1, h2⟩ := vNil_run hr hr.hand hg ha
  exact ⟨v', ρ, w, h1, h2, hr.good⟩
theorem sound_vElem : ∀ {args : List AV} {args' : Array Value} {ρ : Env} {H : AH} {w : World} {v : AV} {H' : AH}, vElemA P args H = some (v, H') → Real P ρ H w → RelL ρ args args'.toList → ∃ v' ρ' w', (Extern.ReflectliteValue.method (Extern.ReflectliteValue.valueError "reflectlite.Value.Elem" 0) Extern.ReflectliteValue.elem args').run P w = .ok v' w' ∧ Rel ρ' v v' ∧ Good none P ρ H w ρ' H' w' := by
  intro args args' ρ H w v H' hg hr ha
  obtain ⟨rfl, v', h1, h2⟩ := vElem_run hr hr.hand hg ha
  exact ⟨v', ρ, w, h1, h2, hr.good⟩
theorem sound_vSet : ∀ {args : List AV} {args' : Array Value} {ρ : Env} {H : AH} {w : World} {v : AV} {H' : AH}, vSetA P args H = some (v, H') → Real P ρ H w → RelL ρ args args'.toList → ∃ v' ρ' w', (Extern.ReflectliteValue.set args').run P w = .ok v' w' ∧ Rel ρ' v v' ∧ Good none P ρ H w ρ' H' w' := by
  intro args args' ρ H w v H' hg hr ha
  obtain ⟨v', w', h1, h2, h3⟩ := vSet_run hr hr.hand hg ha
  exact ⟨v', ρ, w', h1, h2, h3⟩
theorem sound_dry (e : Array Value → Sem Value) : ∀ {args : List AV} {args' : Array Value} {ρ : Env} {H : AH} {w : World} {v : AV} {H' : AH}, dryA P e args H = some (v, H') → Real P ρ H w → RelL ρ args args'.toList → ∃ v' ρ' w', (e args').run P w = .ok v' w' ∧ Rel ρ' v v' ∧ Good none P ρ H w ρ' H' w' := by
  intro args args' ρ H w v H' hg hr ha
  obtain ⟨rfl, v', h1, h2⟩ := dryA_run hr.hand hg ha
  exact ⟨v', ρ, w, h1, h2, hr.good⟩

/-! slices.overlaps, of rows in two blocks. -/
noncomputable def overlapsA (P : Program) (t : TypeId) (args : List AV) (H : AH) : Option (AV × AH) := match args with
  | [.slice (some (b, o)) _la _ _, .slice (some (b', _)) _ _ _] => br (Nat.beq b b') none
      (match H.get b, H.get b', slT P t with
        | some (.cells e cs), some (.cells _ cs'), some el => br (isU8 P e) none (br (Nat.blt o cs.length) (br (Nat.blt 0 cs'.length) (ob (szOf P el) fun _ => some (.bool false, H)) none) none)
        | _, _, _ => none)
  | _ => none
theorem sound_overlaps {t u : TypeId} : ∀ {args : List AV} {args' : Array Value} {ρ : Env} {H : AH} {w : World} {v : AV} {H' : AH}, overlapsA P t args H = some (v, H') → Real P ρ H w → RelL ρ args args'.toList → ∃ v' ρ' w', (Extern.SlicesOverlaps.overlaps #[t, t] #[u] args').run P w = .ok v' w' ∧ Rel ρ' v v' ∧ Good none P ρ H w ρ' H' w' := by
  intro args args' ρ H w v H' hg hr ha
  unfold overlapsA at hg
  split at hg
  · rename_i b o la ca xa b' o' lb cb xb
    rw [br_none_some] at hg
    obtain ⟨hne, hg⟩ := hg
    have hne : b ≠ b' := fun e => by subst e; rw [show Nat.beq b b = true from Nat.beq_refl b] at hne; cases hne
    split at hg
    · rename_i e cs e' cs' el h1 h2 h3
      simp only [br_none_some, br_some_none, ob_eq_some, Option.some.injEq, Prod.mk.injEq, Nat.blt_eq] at hg
      obtain ⟨hu, hcs, hcs', sz, hsz, rfl, rfl⟩ := hg
      obtain ⟨y, ys, e1, r1, y2, ys2, rfl, r2, e2⟩ := ha
      cases e2
      have : args' = #[y, y2] := by apply Array.ext'; simpa using e1
      subst this
      obtain ⟨l, hl, rfl⟩ := rel_slice r1
      obtain ⟨l', hl', rfl⟩ := rel_slice r2
      obtain ⟨m, c, fr, a1, a2, a3, a4, a5, a6, a7⟩ := hr.lies b _ h1
      rw [hl] at a1; cases a1
      obtain ⟨m', c', fr', b1, b2, b3, b4, b5, b6, b7⟩ := hr.lies b' _ h2
      rw [hl'] at b1; cases b1
      have hb : l.blk ≠ l'.blk := fun q => hne (hr.inj b b' l l' (by rw [h1]; simp) (by rw [h2]; simp) hl hl' q)
      have hfr := a7.2 hu
      obtain ⟨lo, hi⟩ := fr
      simp only at hfr
      subst hfr
      have hund : P.underlying t = some (.slice el) := by
        unfold slT at h3
        split at h3
        · cases h3; assumption
        · cases h3
      have hnb : (l.blk != l'.blk) = true := by simpa using hb
      have hnb' : (l.blk == l'.blk) = false := by simpa using hb
      have hfz : ∀ o, w.frozen? ⟨l.blk, o, none⟩ = false := fun o => by
        simp only [World.frozen?, a2, Bool.and_eq_false_iff, decide_eq_false_iff_not]; omega
      have hsa : w.shape? l.blk = some (e, c.size) := by simp [World.shape?, a2]
      have hsb : w.shape? l'.blk = some (e', c'.size) := by simp [World.shape?, b2]
      refine ⟨.bool false, ρ, w, ?_, rfl, hr.good⟩
      cases hk : c'.size with
      | zero => omega
      | succ kB =>
        rw [hk] at hsb
        change Sem.run P (α := Value) (do
          let some t := (#[t, t] : Array TypeId)[0]? | stuck "slices.overlaps: no parameter types"
          let .slice elem ← underlying t | stuck "slices.overlaps: slice type expected"
          let size ← sizeOf elem
          match (some ⟨l.blk, l.off + o, none⟩ : Option Addr), (some ⟨l'.blk, l'.off + o', none⟩ : Option Addr) with
          | some a, some b =>
            if la = 0 ∨ lb = 0 ∨ size = 0 then pure (Value.bool false)
            else if a.block != b.block && (← frozen a) && (← frozen b) then unsupported .addressObserved
            else do
              if a.block != b.block then do
                noView a; noView b
                if ← mayBeOne a b then return Value.bool ((← choose (.extern "sameAddr.stringBytes" 2)) == 1)
              pure (Value.bool (a.block == b.block && a.off < b.off + lb * size && b.off < a.off + la * size))
          | _, _ => pure (Value.bool false)) w = _
        by_cases h0 : la = 0 ∨ lb = 0 ∨ sz = 0
        · simp [run_und hund, run_size hsz, h0]
        · simp [run_und hund, run_size hsz, h0, hnb, hnb', frozen, noView, viewAt, mayBeOne, stringish, shape, Sem.run, hsa, hsb, hfz]
    · cases hg
  · cases hg

/-! A closed run, known in every heap in which the laid variable is as it was laid. -/
noncomputable def laidV (rt G h : Nat) : AV := .iface rt (.agg [.ptr (some (G, h))])
noncomputable def laidA (ob' : Obj) (rt G h : Nat) : ABlk := .ro ob' fun i => br (Nat.beq i 0) (some (laidV rt G h)) none
noncomputable def isLaid (rt G h : Nat) (x : Option ABlk) : Bool := match x with
  | some (.ro _ f) => match f 0 with
    | some y => AV.beq y (laidV rt G h)
    | none => false
  | _ => false
theorem isLaid_eq {rt G h : Nat} {x : Option ABlk} (hx : isLaid rt G h x = true) : ∃ ob' f, x = some (.ro ob' f) ∧ f 0 = some (laidV rt G h) := by
  unfold isLaid at hx
  split at hx
  · rename_i ob' f
    split at hx
    · rename_i y hy
      exact ⟨ob', f, rfl, by rw [hy, AV.beq_eq _ _ hx]⟩
    · cases hx
  · cases hx
noncomputable def AH.start (n : Nat) (x : ABlk) : AH := ⟨Tr.leaf.put 0 (some x), n⟩
theorem get_start (n : Nat) (x : ABlk) (b : Nat) : (AH.start n x).get b = if b = 0 then some x else none := by
  show (Tr.put Tr.leaf 0 (some x)).get b = _
  rw [Tr.get_put]; rfl
/-- What it comes to, and what the variable's block is then. -/
noncomputable def closedR (r : Option (AV × AH)) : Option (Bool × Option ABlk) :=
  @Option.rec (AV × AH) (fun _ => Option (Bool × Option ABlk)) none (fun p => some (boolIs true p.1, p.2.get 0)) r
noncomputable def closedA (rt G h : Nat) (args : List AV) (H : AH) : Option (AV × AH) := match args with
  | [] => br (isLaid rt G h (H.get 0)) (some (.bool true, H)) none
  | _ => none

theorem closed_at {prim : PrimF} (hp : PrimOk P prim) (hm : P.follows .mixedOrders = true) (hreg : progOk P = true) {n : Nat} {f : FuncId} {rt h : Nat} (hb : hasBody P f = true)
    (he : ∀ ob' : Obj, closedR (evCall P prim n f [] (AH.start (P.globals.size + 1) (laidA ob' rt P.globals.size h))) = some (true, some (laidA ob' rt P.globals.size h))) : PrimAt P f (closedA rt P.globals.size h) := by
  intro args args' ρ H w v H' hg hr ha
  refine ⟨fun _ m => ?_, fun q => (by rw [hb] at q; cases q)⟩
  unfold closedA at hg
  split at hg
  case h_2 => cases hg
  rw [br_some_none] at hg
  obtain ⟨hl0, hg⟩ := hg
  cases hg
  obtain ⟨ob', f0, hlaid, hf0⟩ := isLaid_eq hl0
  have hargs : args' = #[] := by
    have := ha.length
    apply Array.ext'
    exact List.eq_nil_of_length_eq_zero (by simpa using this)
  subst hargs
  let ρ0 : Env := fun b => if b < P.globals.size + 1 then ρ b else none
  have e0 : ρ0 0 = ρ 0 := if_pos (Nat.succ_pos _)
  have eG : ρ0 P.globals.size = ρ P.globals.size := if_pos (Nat.lt_succ_self _)
  have hget : ∀ b x, (AH.start (P.globals.size + 1) (laidA ob' rt P.globals.size h)).get b = some x → b = 0 ∧ x = laidA ob' rt P.globals.size h := by
    intro b x hx
    rw [get_start] at hx
    split at hx
    · cases hx; exact ⟨by assumption, rfl⟩
    · cases hx
  have hne : ∀ b, (AH.start (P.globals.size + 1) (laidA ob' rt P.globals.size h)).get b ≠ none → b = 0 := by
    intro b hb
    obtain ⟨x, hx⟩ := Option.ne_none_iff_exists'.1 hb
    exact (hget b x hx).1
  obtain ⟨l0, c, e, fr, hl0', a2, a3, a4⟩ := hr.lies 0 _ hlaid
  have r0 : Real P ρ0 (AH.start (P.globals.size + 1) (laidA ob' rt P.globals.size h)) w := by
    refine ⟨fun b x hx => ?_, fun b b' l l' q1 q2 _ _ _ => by rw [hne b q1, hne b' q2], fun b hb => if_neg (by
      have hb : P.globals.size + 1 ≤ b := hb
      omega), fun g hg => (if_pos hg).trans (hr.glob' g hg)⟩
    obtain ⟨rfl, rfl⟩ := hget b x hx
    refine ⟨l0, c, e, fr, e0.trans hl0', a2, a3, fun i x hx => ?_⟩
    rw [br_some_none] at hx
    obtain ⟨hi, hx⟩ := hx
    obtain rfl := Nat.eq_of_beq_eq_true hi
    cases hx
    obtain ⟨q1, v, q2, q3⟩ := a4 0 _ hf0
    refine ⟨rfl, v, q2, ?_⟩
    obtain ⟨y, rfl, cs, rfl, y2, ys, rfl, ⟨m, q4, q5⟩, r2⟩ := q3
    exact ⟨_, rfl, _, rfl, y2, ys, rfl, ⟨m, eG.trans q4, q5⟩, r2⟩
  have he := he ob'
  cases hev : evCall P prim n f [] (AH.start (P.globals.size + 1) (laidA ob' rt P.globals.size h)) with
  | none => rw [hev] at he; cases he
  | some r =>
    obtain ⟨v1, H1⟩ := r
    rw [hev] at he
    have he : some (boolIs true v1, H1.get 0) = some (true, some (laidA ob' rt P.globals.size h)) := he
    simp only [Option.some.injEq, Prod.mk.injEq] at he
    obtain ⟨hv1, h1⟩ := he
    have hv1 : v1 = .bool true := by
      cases v1 <;> first | (cases hv1; done) | skip
      rename_i b; cases b
      · cases hv1
      · rfl
    subst hv1
    have hc := ((ev_ok hp hm (progOk_regs hreg) n).call hev r0 (show RelL ρ0 [] #[].toList from rfl)).1 hb m
    refine hc.mono fun e' w' hret => ?_
    unfold Ret at hret ⊢
    cases e' with
    | returned v' =>
      obtain ⟨ρ', q1, g⟩ := hret
      refine ⟨ρ, q1, ?_⟩
      have keep : ∀ B, B < w.heap.size → B ≠ l0.blk → w'.heap[B]? = w.heap[B]? := fun B hB hn => g.ev.keep B hB fun b l hb hl => by
        have := hne b hb
        subst this
        rw [e0, hl0'] at hl; cases hl
        exact fun q => hn q.symm
      refine ⟨⟨fun b x hx => ?_, hr.inj, hr.fresh, hr.glob'⟩, ⟨.refl ρ, Nat.le_refl _, g.ev.size, fun b l q1 q2 _ => ⟨b, l, q1, q2, rfl⟩, fun B hB hn => keep B hB fun q => hn 0 l0 (by rw [hlaid]; simp) hl0' q.symm, g.ev.os, g.ev.tape, g.ev.output, fun _ _ q _ => q⟩⟩
      by_cases hb0 : b = 0
      · subst hb0
        rw [hlaid] at hx; cases hx
        obtain ⟨l1, _, _, _, k1, k2, _⟩ := g.real.lies 0 _ h1
        have : l1 = l0 := by
          have := g.ev.le _ _ (e0.trans hl0')
          rw [k1] at this; exact Option.some.inj this
        subst this
        exact ⟨l1, c, e, fr, hl0', k2, a3, a4⟩
      · refine (hr.lies b x hx).mono (.refl ρ) fun l hl => keep _ (hr.inb (by rw [hx]; simp) hl) fun q => hb0 ?_
        exact hr.inj b 0 l l0 (by rw [hx]; simp) (by rw [hlaid]; simp) hl hl0' q
    | _ => exact hret.elim
end Go.Ab
end

section
/- slices.Insert of one element: the room behind a slice is made known, and forgotten again. -/

namespace Go.Ab
variable {P : Program} {ρ : Env} {H : AH} {w : World}

/-- Names that are passed over. -/
noncomputable def AH.upTo (H : AH) (n : Nat) : AH := ⟨H.tr, n⟩
theorem get_upTo (H : AH) (n b : Nat) : (H.upTo n).get b = H.get b := rfl
theorem Good.upTo (h : Real P ρ H w) {n : Nat} (hn : H.next ≤ n) : Good none P ρ H w ρ (H.upTo n) w := by
  refine ⟨⟨h.lies, h.inj, fun b hb => h.fresh b (Nat.le_trans hn hb), h.glob'⟩, .refl ρ, hn, Nat.le_refl _, fun b l h1 h2 _ => ⟨b, l, h1, h2, rfl⟩, fun _ _ _ => rfl, rfl, rfl, rfl, fun _ _ q _ => q⟩

/-- The room behind an open slice's row is made known: cells of which nothing is known. -/
theorem Real.openUp (h : Real P ρ H w) {b : Nat} {e : TypeId} {cs : List AV} (hb : H.get b = some (.cells e cs)) {l : Loc} (hl : ρ b = some l) :
    Good none P ρ H w (ρ.with H.next ⟨l.blk, l.off, 0⟩) (newH (H.put b none) none (.cells e (cs ++ List.replicate (l.spare * P.cellsOf e) .any))) w := by
  refine h.move (by rw [hb]; simp) hl rfl rfl (fun _ _ => rfl) ?_ rfl rfl rfl
  obtain ⟨l', c, fr, h1, h2, h3, h4, h5, h6, h7⟩ := h.lies b _ hb
  rw [hl] at h1; cases h1
  have hle : Le ρ (ρ.with H.next ⟨l.blk, l.off, 0⟩) := le_with (h.fresh _ (Nat.le_refl _))
  refine ⟨_, c, fr, with_same _ _, h2, h3, ?_, ?_, fun i x hx => ?_, fun i v a1 a2 => ?_, h7.2⟩
  · simp only [List.length_append, List.length_replicate]; omega
  · intro x hx
    rw [List.mem_append] at hx
    rcases hx with hx | hx
    · exact h5 x hx
    · rw [List.eq_of_mem_replicate hx]; rfl
  · by_cases hi : i < cs.length
    · rw [List.getElem?_append_left hi] at hx
      obtain ⟨v, a, r⟩ := h6 i x hx
      exact ⟨v, a, r.mono hle⟩
    · rw [List.getElem?_append_right (by omega), List.getElem?_replicate] at hx
      split at hx
      · rename_i hlt
        cases hx
        have hlt2 : l.off + i < c.size := by omega
        exact ⟨c[l.off + i], Array.getElem?_eq_getElem hlt2, .inr ⟨rfl, h7.1 i _ (by omega) (by omega) (Array.getElem?_eq_getElem hlt2)⟩⟩
      · cases hx
  · simp only [List.length_append, List.length_replicate, Nat.zero_mul] at a1 a2; omega

/-- A slice that is all that goes on of its row: it is open behind. -/
theorem Good.shutDown {ρ1 : Env} {H1 H2 : AH} {w1 : World} (g : Good none P ρ H w ρ1 H1 w1) {B o k cap N sz : Nat} {ex : Bool} {e : TypeId} {cs L : List AV} {v : Value} (hB : H1.get B = some (.cells e cs)) (hsz : P.cellsOf e = sz)
    (hL : L = (cs.drop o).take (k * sz)) (hk : k ≤ cap) (hcap : o + cap * sz ≤ cs.length) (hN : H1.next ≤ N) (hv : Rel ρ1 (.slice (some (B, o)) k cap ex) v)
    (hn2 : H2.next = N + 1) (h2 : ∀ c x, H2.get c = some x → (c = N ∧ x = .cells e L) ∨ (c ≠ N ∧ c ≠ B ∧ H1.get c = some x)) :
    ∃ ρ', Rel ρ' (.slice (some (N, 0)) k k false) v ∧ Good none P ρ H w ρ' H2 w1 := by
  obtain ⟨l, hl, rfl⟩ := rel_slice hv
  have g1 := g.trans (Good.upTo g.real hN)
  have hLl : L.length = k * sz := by
    have : k * sz ≤ cap * sz := Nat.mul_le_mul_right _ hk
    rw [hL, List.length_take, List.length_drop]; omega
  -- how much room there is
  obtain ⟨sp, hsp⟩ : ∃ sp, (if ex then cap else cap + l.spare) = k + sp := ⟨(if ex then cap else cap + l.spare) - k, by split <;> omega⟩
  have hsp' : (k + sp) * sz ≤ cap * sz + l.spare * sz := by
    rw [← hsp, ← Nat.add_mul]
    refine Nat.mul_le_mul_right _ ?_
    split <;> omega
  have hks : (k + sp) * sz = k * sz + sp * sz := Nat.add_mul _ _ _
  have g2 : Good none P ρ1 (H1.upTo N) w1 (ρ1.with N ⟨l.blk, l.off + o, sp⟩) (newH ((H1.upTo N).put B none) none (.cells e L)) w1 := by
    refine g1.real.move (H := H1.upTo N) (b := B) (by rw [get_upTo, hB]; simp) hl rfl rfl (fun _ _ => rfl) ?_ rfl rfl rfl
    obtain ⟨l', c, fr, a1, a2, a3, a4, a5, a6, a7⟩ := g.real.lies B _ hB
    rw [hl] at a1; cases a1
    rw [hsz] at a4
    have hle : Le ρ1 (ρ1.with N ⟨l.blk, l.off + o, sp⟩) := le_with (g.real.fresh _ hN)
    have hmem : ∀ i x, L[i]? = some x → cs[o + i]? = some x := by
      intro i x hx
      rw [hL, List.getElem?_take] at hx
      split at hx
      · rw [List.getElem?_drop] at hx; exact hx
      · cases hx
    refine ⟨_, c, fr, with_same _ _, a2, a3, ?_, ?_, fun i x hx => ?_, fun i u b1 b2 b3 => ?_, a7.2⟩
    · rw [hLl, hsz]; show l.off + o + k * sz + sp * sz ≤ c.size; omega
    · intro x hx
      obtain ⟨i, hi⟩ := List.getElem?_of_mem hx
      exact a5 x (List.mem_of_getElem? (hmem i x hi))
    · obtain ⟨u, b1, b2⟩ := a6 _ x (hmem i x hx)
      exact ⟨u, by rw [← b1]; congr 1; show l.off + o + i = _; omega, b2.mono hle⟩
    · rw [hLl] at b1 b2
      rw [hsz] at b2
      have b2 : i < k * sz + sp * sz := b2
      have b3 : c[l.off + (o + i)]? = some u := by rw [← b3]; congr 1; show _ = l.off + o + i; omega
      by_cases hlt : o + i < cs.length
      · obtain ⟨u', q1, q2⟩ := a6 (o + i) _ (List.getElem?_eq_getElem hlt)
        rw [q1] at b3; cases b3
        rw [q2.one]; exact a5 _ (List.getElem_mem _)
      · refine a7.1 (o + i) u (by omega) ?_ b3
        rw [hsz]; omega
  refine ⟨_, ?_, (g1.trans g2).sub (fun c x hx => ?_) ?_⟩
  · refine ⟨_, with_same _ _, ?_⟩
    simp only [Bool.false_eq_true, if_false, Nat.add_zero]
    rw [hsp]
  · rw [get_newH, AH.get_put]
    rcases h2 c x hx with ⟨rfl, rfl⟩ | ⟨q1, q2, q3⟩
    · rw [if_pos (show c = idOf ((H1.upTo c).put B none) none from rfl)]
    · rw [if_neg (show c ≠ idOf ((H1.upTo N).put B none) none from q1), if_neg q2]; exact q3
  · rw [hn2]; simp [newH, AH.newTo_none, AH.upTo]
end Go.Ab
end

section
/- The words for slices, worked out on what is known. -/

namespace Go.Ab
variable {P : Program} {C : CW} {H : AH}

theorem natZ_cast (j : Nat) : natZ (j : Int) = some j := rfl
theorem w_len_sl {t e : TypeId} (hu : P.underlying t = some (.slice e)) (p : Option (Nat × Nat)) (n c : Nat) (ex : Bool) : w_len P t H (.slice p n c ex) = some (.val (.int .i64 n) H) := by
  simp only [w_len, lenF, hu, oArgs1v, val_mk, vO, ob_some]; rfl
theorem w_len_str {t : TypeId} (hu : P.underlying t = some .string) (s : List UInt8) : w_len P t H (.str s) = some (.val (.int .i64 s.length) H) := by
  simp only [w_len, lenF, hu, oArgs1v, val_mk, vO, ob_some]; rfl
theorem w_len_tail {t e : TypeId} (hu : P.underlying t = some (.slice e)) (b o : Nat) : w_len P t H (.tail b o) = some (.val (.int .i64 0) H) := by
  simp only [w_len, lenF, hu, oArgs1v, val_mk, vO, ob_some]; rfl
theorem w_cap_sl {t e : TypeId} (hu : P.underlying t = some (.slice e)) (p : Option (Nat × Nat)) (n c : Nat) : w_cap P t H (.slice p n c true) = some (.val (.int .i64 c) H) := by
  simp only [w_cap, capF, hu, oArgs1p, val_mk, vO, ob_some]; rfl

theorem condT {p : Prop} [Decidable p] {x y : Prop} (h : p) (k : x) : condP (.bool (decide p)) x y := by rw [decide_eq_true h]; exact k
theorem condF {p : Prop} [Decidable p] {x y : Prop} (h : ¬ p) (k : y) : condP (.bool (decide p)) x y := by rw [decide_eq_false h]; exact k
theorem w_add_in {a b : Int} (h1 : -9223372036854775808 ≤ a + b) (h2 : a + b ≤ 9223372036854775807) : w_int .add H (.int .i64 a) (.int .i64 b) = some (.val (.int .i64 (a + b)) H) := by rw [w_add, wrap64_in h1 h2]
theorem w_sub_in {a b : Int} (h1 : -9223372036854775808 ≤ a - b) (h2 : a - b ≤ 9223372036854775807) : w_int .sub H (.int .i64 a) (.int .i64 b) = some (.val (.int .i64 (a - b)) H) := by rw [w_sub, wrap64_in h1 h2]
theorem w_mul_in {a b : Int} (h1 : -9223372036854775808 ≤ a * b) (h2 : a * b ≤ 9223372036854775807) : w_int .mul H (.int .i64 a) (.int .i64 b) = some (.val (.int .i64 (a * b)) H) := by rw [w_mul, wrap64_in h1 h2]
/-- A natural sum. -/
theorem w_add_nat {a b : Nat} (h : a + b ≤ 9223372036854775807) : w_int .add H (.int .i64 a) (.int .i64 b) = some (.val (.int .i64 ((a + b : Nat) : Int)) H) := by
  rw [w_add_in (by omega) (by omega), Int.natCast_add]
theorem w_sub_nat {a b : Nat} (h : b ≤ a) (h2 : a ≤ 9223372036854775807) : w_int .sub H (.int .i64 a) (.int .i64 b) = some (.val (.int .i64 ((a - b : Nat) : Int)) H) := by
  rw [w_sub_in (by omega) (by omega), Int.natCast_sub h]

/-! Slicing. -/
theorem bndA_of {y i : Nat} (k : IntKind) (h : i ≤ y) : bndA y (.int k i) = some i := by
  have : Nat.ble i y = true := by simpa using h
  simp only [bndA, natZ_cast, ob_some, this, br_true]
def loB : Option (IntKind × Nat) → Option AV
  | none => none
  | some (k, i) => some (.int k i)
def loN (d : Nat) : Option (IntKind × Nat) → Nat
  | none => d
  | some (_, i) => i
/-- Slicing, without a third bound, a slice whose room is known. -/
theorem w_slice_ex {sz b o n c : Nat} {hasHi : Bool} (lo hi : Option (IntKind × Nat)) (h1 : loN 0 lo ≤ loN n hi) (h2 : loN n hi ≤ c) :
    w_slice (.sl sz) hasHi false H (.slice (some (b, o)) n c true) (loB lo) (loB hi) none = some (.val (.slice (some (b, if c = loN 0 lo then o else o + loN 0 lo * sz)) (loN n hi - loN 0 lo) (c - loN 0 lo) true) H) := by
  have e1 : bndO n c (loB hi) = some (loN n hi) := by cases hi with | none => rfl | some p => obtain ⟨k, i⟩ := p; exact bndA_of k h2
  have e2 : bndO 0 (loN n hi) (loB lo) = some (loN 0 lo) := by cases lo with | none => rfl | some p => obtain ⟨k, i⟩ := p; exact bndA_of k h1
  have e3 : ∀ x y : Option (Nat × Nat), br (Nat.beq c (loN 0 lo)) x y = if c = loN 0 lo then x else y := fun x y => by rw [br_eq]; simp only [Nat.beq_eq]
  have e0 : bndO c c none = some c := rfl
  simp only [w_slice, sliceA, Bool.false_and, br_false, val_mk, bndsTo, e0, ob_some, e1, e2]
  simp only [Bool.or_true, br_true, e3]
  by_cases hc : c = loN 0 lo
  · simp only [hc, if_true]; rfl
  · simp only [hc, if_false]; rfl
/-- .. one that is open behind, which stays no longer than it is. -/
theorem w_slice_op {sz b o n c : Nat} {hasHi : Bool} (lo hi : Option (IntKind × Nat)) (h1 : loN 0 lo ≤ loN n hi) (h2 : loN n hi ≤ c) (h3 : loN 0 lo < c) :
    w_slice (.sl sz) hasHi false H (.slice (some (b, o)) n c false) (loB lo) (loB hi) none = some (.val (.slice (some (b, o + loN 0 lo * sz)) (loN n hi - loN 0 lo) (c - loN 0 lo) false) H) := by
  have e1 : bndO n c (loB hi) = some (loN n hi) := by cases hi with | none => rfl | some p => obtain ⟨k, i⟩ := p; exact bndA_of k h2
  have e2 : bndO 0 (loN n hi) (loB lo) = some (loN 0 lo) := by cases lo with | none => rfl | some p => obtain ⟨k, i⟩ := p; exact bndA_of k h1
  have e3 : Nat.beq c (loN 0 lo) = false := Bool.eq_false_iff.2 fun q => by have := Nat.eq_of_beq_eq_true q; omega
  have e4 : Nat.ble (loN 0 lo) c = true := by simpa using Nat.le_of_lt h3
  have e0 : bndO c c none = some c := rfl
  simp only [w_slice, sliceA, Bool.false_and, br_false, val_mk, bndsTo, e0, ob_some, e1, e2]
  simp only [Bool.or_false, br_false, e3, e4, br_true]
  rfl

/-! Cells of slices. -/
/-- The first n elements of a slice, as cells. -/
theorem sliceCells_cells {sz b o n m c : Nat} {ex : Bool} {e : TypeId} {cs L : List AV} (h : H.get b = some (.cells e cs)) (hm : m ≤ n) (ho : o + m * sz ≤ cs.length) (hL : (cs.drop o).take (m * sz) = L) (hk : L.all AV.known = true) :
    sliceCells H sz m (.slice (some (b, o)) n c ex) = some L := by
  have h1 : Nat.ble m n = true := by simpa using hm
  simp only [sliceCells, h1, br_true]
  rw [br_eq]
  split
  · rename_i h0
    have h0 : m = 0 := by simpa using h0
    subst h0
    simp at hL; rw [← hL]
  · simp only [rowTo, h, cut_eq]
    have : o + Nat.mul m sz ≤ cs.length := ho
    rw [if_pos this]
    show ob (some ((cs.drop o).take (m * sz))) (fun l => br (allB AV.known l) (some l) none) = _
    rw [ob_some, hL, allB_eq, hk, br_true]
theorem sliceCells_nil (sz c : Nat) (ex : Bool) (n : Nat) : sliceCells H sz 0 (.slice none n c ex) = some [] := rfl

/-- append of one slice to another one: there is room, and it is known. -/
theorem w_append_room {e sz by_ b o n c m : Nat} {x : AV} {cs V : List AV} {t : TypeId} (hn : lenA x = some m) (hV : sliceCells H sz m x = some V) (hroom : n + m ≤ c) (h : H.get b = some (.cells t cs)) (hne : V ≠ []) (hlen : o + n * sz + V.length ≤ cs.length) :
    w_append e sz by_ H (.slice (some (b, o)) n c true) x none = some (.val (.slice (some (b, o)) (n + m) c true) (H.put b (some (.cells t (cs.take (o + n * sz) ++ (V ++ cs.drop (o + n * sz + V.length))))))) := by
  have h1 : Nat.ble (Nat.add n m) c = true := by simpa using hroom
  have hw := writeA_eq (o := o + n * sz) h hne hlen
  simp only [w_append, newCells, hn, hV, ob_some, ob2_some, appendTo, h1, br_true]
  show ob (writeA H b (o + n * sz) V) _ = _
  rw [hw, ob_some]; rfl
/-- .. there is none: a new row. -/
theorem w_append_grow {e sz by_ n c m : Nat} {p : Option (Nat × Nat)} {x : AV} {V L : List AV} (hn : lenA x = some m) (hV : sliceCells H sz m x = some V) (hroom : c < n + m) (hby : (2 * (n + m) + 1024) * by_ ≤ 281474976710656) (hL : sliceCells H sz n (.slice p n c true) = some L) :
    w_append e sz by_ H (.slice p n c true) x none = some (.val (.slice (some (H.next, 0)) (n + m) (n + m) false) (H.new (.cells e (L ++ V)))) := by
  have h1 : Nat.ble (Nat.add n m) c = false := Bool.eq_false_iff.2 fun q => absurd (show n + m ≤ c from Nat.le_of_ble_eq_true q) (by omega)
  have h2 : Nat.ble (Nat.mul (Nat.add (Nat.mul 2 (Nat.add n m)) 1024) by_) 281474976710656 = true := by simpa using hby
  simp only [w_append, newCells, hn, hV, ob_some, ob2_some, appendTo, h1, h2, br_true, br_false, hL, openNew, newTo_none_eq, joinL_eq]
  rfl
/-- append of zero elements. -/
theorem w_appendZ_grow {e sz by_ n c m : Nat} {p : Option (Nat × Nat)} {k : IntKind} {z L : List AV} (hroom : c < n + m) (hm : m ≤ 1000000000) (hmb : m * by_ ≤ 281474976710656) (hby : (2 * (n + m) + 1024) * by_ ≤ 281474976710656) (hL : sliceCells H sz n (.slice p n c true) = some L) :
    w_appendZ e sz by_ z H (.slice p n c true) (.int k m) none = some (.val (.slice (some (H.next, 0)) (n + m) (n + m) false) (H.new (.cells e (L ++ reps m z)))) := by
  have h1 : Nat.ble (Nat.add n m) c = false := Bool.eq_false_iff.2 fun q => absurd (show n + m ≤ c from Nat.le_of_ble_eq_true q) (by omega)
  have h2 : Nat.ble (Nat.mul (Nat.add (Nat.mul 2 (Nat.add n m)) 1024) by_) 281474976710656 = true := by simpa using hby
  have h3 : Nat.ble m 1000000000 = true := by simpa using hm
  have h4 : Nat.ble (Nat.mul m by_) 281474976710656 = true := by simpa using hmb
  simp only [w_appendZ, newZeros, natZ_cast, h3, h4, br_true, ob_some, ob2_some, appendTo, h1, h2, br_false, hL, openNew, newTo_none_eq, joinL_eq]
  rfl
/-- copy. -/
theorem w_copy_of {t e : TypeId} {sz b o n c k m : Nat} {ex : Bool} {x : AV} {cs V : List AV} {t' : TypeId} (hu : P.underlying t = some (.slice e)) (hz : szOf P e = some sz) (hn : lenA x = some k) (hm : m = min k n) (hV : sliceCells H sz m x = some V) (h : H.get b = some (.cells t' cs)) (hne : V ≠ []) (hlen : o + V.length ≤ cs.length) :
    w_copy P t H (.slice (some (b, o)) n c ex) x = some (.val (.int .i64 m) (H.put b (some (.cells t' (cs.take o ++ (V ++ cs.drop (o + V.length))))))) := by
  have hw := writeA_eq (o := o) h hne hlen
  have hs : slT P t = some e := by simp only [slT, hu]
  have hm' : Nat.min k n = m := by rw [hm]
  simp only [w_copy, copyF, hs, hz, oArgs2, val_mk, hn, ob_some, hm', hV, hw]
theorem lenA_sl (p : Option (Nat × Nat)) (n c : Nat) (ex : Bool) : lenA (.slice p n c ex) = some n := rfl
theorem condB {b : Bool} {x y : Prop} (h : b = true) (k : x) : condP (.bool b) x y := by subst h; exact k
theorem condN {b : Bool} {x y : Prop} (h : b = false) (k : y) : condP (.bool b) x y := by subst h; exact k
/-- A call of what is known. -/
theorem prim_wp {prim : PrimF} {f : FuncId} {g : List AV → AH → Option (AV × AH)} {args : List AV} {v : AV} {H' : AH} {K : AV → AH → Prop} (h : prim f = some g) (hg : g args H = some (v, H')) (k : K v H') : (WP P prim).call f args H K := by
  refine ⟨1, v, H', fun m hm => ?_, k⟩
  obtain ⟨m, rfl⟩ : ∃ j, m = j + 1 := ⟨m - 1, by omega⟩
  show callStep P prim _ _ m f args H = _
  unfold callStep
  rw [h]; exact hg

/-! Lists, place by place. -/
theorem seg_eq {α : Type} {cs X : List α} {o k : Nat} (hX : X.length = k) (h : ∀ j, j < k → cs[o + j]? = X[j]?) : (cs.drop o).take k = X := by
  refine List.ext_getElem? fun j => ?_
  rw [List.getElem?_take, List.getElem?_drop]
  split
  · exact h j (by assumption)
  · rw [List.getElem?_eq_none (by omega)]
theorem seg_get {α : Type} {cs L : List α} {o k j : Nat} (hL : L = (cs.drop o).take k) (hj : j < k) : L[j]? = cs[o + j]? := by
  rw [hL, List.getElem?_take, if_pos hj, List.getElem?_drop]
theorem splice_get {α : Type} (cs V : List α) (o j : Nat) (h : o + V.length ≤ cs.length) : (cs.take o ++ (V ++ cs.drop (o + V.length)))[j]? = if j < o then cs[j]? else if j < o + V.length then V[j - o]? else cs[j]? := by
  have h1 : (cs.take o).length = o := by rw [List.length_take]; omega
  by_cases c1 : j < o
  · rw [List.getElem?_append_left (by omega), List.getElem?_take, if_pos c1, if_pos c1]
  · rw [List.getElem?_append_right (by omega), h1, if_neg c1]
    by_cases c2 : j < o + V.length
    · rw [List.getElem?_append_left (by omega), if_pos c2]
    · rw [List.getElem?_append_right (by omega), if_neg c2, List.getElem?_drop]; congr 1; omega
theorem splice_length {α : Type} (cs V : List α) (o : Nat) (h : o + V.length ≤ cs.length) : (cs.take o ++ (V ++ cs.drop (o + V.length))).length = cs.length := by
  simp only [List.length_append, List.length_take, List.length_drop]; omega
theorem insert_get {α : Type} (L V : List α) (a j : Nat) (h : a ≤ L.length) : (L.take a ++ (V ++ L.drop a))[j]? = if j < a then L[j]? else if j < a + V.length then V[j - a]? else L[j - V.length]? := by
  have h1 : (L.take a).length = a := by rw [List.length_take]; omega
  by_cases c1 : j < a
  · rw [List.getElem?_append_left (by omega), List.getElem?_take, if_pos c1, if_pos c1]
  · rw [List.getElem?_append_right (by omega), h1, if_neg c1]
    by_cases c2 : j < a + V.length
    · rw [List.getElem?_append_left (by omega), if_pos c2]
    · rw [List.getElem?_append_right (by omega), if_neg c2, List.getElem?_drop]; congr 1; omega
theorem insert_length {α : Type} (L V : List α) (a : Nat) (h : a ≤ L.length) : (L.take a ++ (V ++ L.drop a)).length = L.length + V.length := by
  simp only [List.length_append, List.length_take, List.length_drop]; omega
end Go.Ab
end

section
/- From a world in which the laid variable reads to the abstract heap, and from the run's end to what the row asks. -/


namespace Go.Ab
variable {P : Program}

/-- The variables alone have names. -/
def rho0 (P : Program) : Env := fun b => if b < P.globals.size + 1 then some ⟨b, 0, 0⟩ else none
theorem rho0_lt {b : Nat} (h : b < P.globals.size + 1) : rho0 P b = some ⟨b, 0, 0⟩ := if_pos h
theorem real_start {W : World} {rt h : Nat} (hl : W.cell? ⟨0, 0, none⟩ = some (.iface rt (.agg #[.pointer (some ⟨P.globals.size, h, none⟩)]))) :
    ∃ ob', W.heap[0]? = some ob' ∧ Real P (rho0 P) (AH.start (P.globals.size + 1) (laidA ob' rt P.globals.size h)) W := by
  cases hw : W.heap[0]? with
  | none => simp [World.cell?, hw] at hl
  | some ob' =>
    cases ob' with
    | cells c e fr =>
      have hc : c[0]? = some (.iface rt (.agg #[.pointer (some ⟨P.globals.size, h, none⟩)])) := by simpa [World.cell?, hw] using hl
      refine ⟨_, rfl, ⟨fun b x hx => ?_, fun b b' l l' q1 q2 _ _ _ => ?_, fun b hb => if_neg (by
        have hb : P.globals.size + 1 ≤ b := hb
        omega), fun g hg => rho0_lt hg⟩⟩
      · rw [get_start] at hx
        split at hx
        · rename_i hb
          subst hb
          cases hx
          refine ⟨⟨0, 0, 0⟩, c, e, fr, rho0_lt (Nat.succ_pos _), hw, rfl, fun i x hx => ?_⟩
          rw [br_some_none] at hx
          obtain ⟨hi, hx⟩ := hx
          obtain rfl := Nat.eq_of_beq_eq_true hi
          cases hx
          exact ⟨rfl, _, hc, ⟨_, rfl, _, rfl, _, _, rfl, ⟨_, rho0_lt (Nat.lt_succ_self _), by simp⟩, rfl⟩⟩
        · cases hx
      · have key : ∀ b, (AH.start (P.globals.size + 1) (laidA (.cells c e fr) rt P.globals.size h)).get b ≠ none → b = 0 := by
          intro b hb
          rw [get_start] at hb
          split at hb
          · assumption
          · exact absurd rfl hb
        rw [key b q1, key b' q2]
    | _ => simp [World.cell?, hw] at hl

/-- What is read alone, and was all that there was, is as it was: nothing below is turned. -/
theorem below_of {ρ ρ' : Env} {H H' : AH} {W W' : World} (g : Good none P ρ H W ρ' H' W') (hr : Real P ρ H W) (hro : ∀ b x, H.get b = some x → ∃ ob' f, x = .ro ob' f ∧ H'.get b = some (.ro ob' f)) : RowKit.Below W.heap.size W W' := by
  refine ⟨g.ev.os, g.ev.tape, g.ev.output, g.ev.size, fun B hB => ?_⟩
  by_cases hx : ∃ b l, H.get b ≠ none ∧ ρ b = some l ∧ l.blk = B
  · obtain ⟨b, l, hb, hl, rfl⟩ := hx
    obtain ⟨x, hx⟩ := Option.ne_none_iff_exists'.1 hb
    obtain ⟨ob', f, rfl, hb'⟩ := hro b x hx
    obtain ⟨l1, _, _, _, q1, q2, _⟩ := hr.lies b _ hx
    obtain ⟨l2, _, _, _, k1, k2, _⟩ := g.real.lies b _ hb'
    rw [hl] at q1; cases q1
    have := g.ev.le _ _ hl
    rw [k1] at this; cases this
    rw [k2, q2]
  · exact g.ev.keep B hB fun b l hb hl e => hx ⟨b, l, hb, hl, e⟩
end Go.Ab
end

section
/- Rows of cells in a heap; the words on them. -/

namespace Go.Ab
variable {P : Program} {C : CW} {H H' : AH}

/-- The cell at a place of a block. -/
def cellOf (x : Option ABlk) (o : Nat) : Option AV := match x with
  | some (.cells _ cs) => cs[o]?
  | some (.ro _ f) => f o
  | _ => none
theorem cellOf_cells (e : TypeId) (cs : List AV) (o : Nat) : cellOf (some (.cells e cs)) o = cs[o]? := rfl
theorem cellOf_ro (x : Obj) (f : Nat → Option AV) (o : Nat) : cellOf (some (.ro x f)) o = f o := rfl
theorem clearA_one {v : AV} (hk : v.known = true) (h1 : v.one = true) : clearA v = some v := by cases v <;> first | rfl | (cases hk; done) | (cases h1; done)
theorem w_load_of {b o : Nat} {v : AV} (h : cellOf (H.get b) o = some v) (hk : v.known = true) (h1 : v.one = true) : w_load none H (.ptr (some (b, o))) = some (.val v H) := by
  have hn : ∀ l, v ≠ .agg l := fun l e => by rw [e] at h1; cases h1
  unfold cellOf at h
  split at h
  · rename_i he; exact w_load_cell he h hk hn
  · rename_i he; exact w_load_ro he h hk hn
  · cases h
theorem w_load_ofs {b o n : Nat} {l : List AV} (hne : l ≠ []) (hl : l.length = n) (h : ∀ i v, l[i]? = some v → cellOf (H.get b) (o + i) = some v) (hk : l.all AV.known = true) : w_load (some n) H (.ptr (some (b, o))) = some (.val (.agg l) H) := by
  obtain ⟨v0, hv0⟩ : ∃ v, l[0]? = some v := by cases l with | nil => exact absurd rfl hne | cons x l => exact ⟨x, rfl⟩
  have h0 := h 0 v0 hv0
  have hlast : ∃ v, l[l.length - 1]? = some v := ⟨_, List.getElem?_eq_getElem (by have := List.length_pos_iff.2 hne; omega)⟩
  obtain ⟨vl, hvl⟩ := hlast
  have hL := h _ vl hvl
  cases hb : H.get b with
  | none => rw [hb] at h0; cases h0
  | some x =>
    cases x with
    | cells e cs =>
      simp only [hb, cellOf_cells] at h hL
      have hlen : o + n ≤ cs.length := by
        have := (List.getElem?_eq_some_iff.1 hL).1
        have := List.length_pos_iff.2 hne
        omega
      refine w_load_agg hb hlen (seg_eq hl fun j hj => ?_) hk
      have hj' : l[j]? = some l[j] := List.getElem?_eq_getElem (by omega)
      rw [h j _ hj', hj']
    | ro x f => exact w_load_ro_agg hb hl (fun i v hv => by have := h i v hv; rw [hb] at this; exact this) hk
    | _ => rw [hb] at h0; cases h0

/-- Elements of sz cells each, one behind the other, from o on. -/
structure SlAt (H : AH) (sz b o : Nat) (X : List (List AV)) : Prop where
  lt : b < H.next
  szs : ∀ x ∈ X, x.length = sz
  known : ∀ x ∈ X, x.all AV.known = true
  one : ∀ x ∈ X, x.all AV.one = true
  cell : ∀ j x, X[j]? = some x → ∀ i v, x[i]? = some v → cellOf (H.get b) (o + j * sz + i) = some v
theorem SlAt.mono {sz b o : Nat} {X : List (List AV)} (h : SlAt H sz b o X) {m : List Nat} (e : Ext m H H') (hb : b ∉ m) : SlAt H' sz b o X :=
  ⟨Nat.lt_of_lt_of_le h.lt e.next, h.szs, h.known, h.one, fun j x hx i v hv => by rw [e.same b h.lt hb]; exact h.cell j x hx i v hv⟩
/-- A slice of such. -/
structure Sl (H : AH) (sz b : Nat) (s : AV) (X : List (List AV)) : Prop where
  ex : ((s = .slice none 0 0 true ∨ ∃ b o, s = .tail b o) ∧ X = []) ∨ ∃ o c ex, s = .slice (some (b, o)) X.length c ex ∧ SlAt H sz b o X ∧ X.length ≤ c
theorem Sl.mono {sz b : Nat} {s : AV} {X : List (List AV)} (h : Sl H sz b s X) {m : List Nat} (e : Ext m H H') (hb : b ∉ m) : Sl H' sz b s X := by
  obtain h | ⟨o, c, ex, h1, h2, h3⟩ := h.ex
  · exact ⟨.inl h⟩
  · exact ⟨.inr ⟨o, c, ex, h1, h2.mono e hb, h3⟩⟩
theorem Sl.lenA {sz b : Nat} {s : AV} {X : List (List AV)} (h : Sl H sz b s X) : lenA s = some X.length := by
  obtain ⟨rfl | ⟨_, _, rfl⟩, rfl⟩ | ⟨o, c, ex, rfl, _, _⟩ := h.ex <;> rfl
theorem Sl.len {sz b : Nat} {s : AV} {X : List (List AV)} (h : Sl H sz b s X) {t e : TypeId} (hu : P.underlying t = some (.slice e)) (G : AH) : w_len P t G s = some (.val (.int .i64 X.length) G) := by
  obtain ⟨rfl | ⟨_, _, rfl⟩, rfl⟩ | ⟨o, c, ex, rfl, _, _⟩ := h.ex
  · exact w_len_sl hu _ _ _ _
  · exact w_len_tail hu _ _
  · exact w_len_sl hu _ _ _ _
/-- An element's place; what it holds. -/
theorem Sl.at {sz b : Nat} {s : AV} {X : List (List AV)} (h : Sl H sz b s X) {j : Nat} (hj : j < X.length) (k : IntKind) : ∃ o, (∀ G : AH, w_indexAddr (.sl sz) G s (.int k j) = some (.val (.ptr (some (b, o))) G)) ∧ b < H.next ∧ ∀ i v, X[j][i]? = some v → cellOf (H.get b) (o + i) = some v := by
  obtain ⟨_, rfl⟩ | ⟨o, c, ex, rfl, h2, _⟩ := h.ex
  · cases hj
  · exact ⟨o + j * sz, fun G => w_idx_sl hj, h2.lt, fun i v hv => h2.cell j _ (List.getElem?_eq_getElem hj) i v hv⟩
theorem Sl.elt {sz b : Nat} {s : AV} {X : List (List AV)} (h : Sl H sz b s X) {j : Nat} (hj : j < X.length) : X[j].length = sz ∧ X[j].all AV.known = true ∧ X[j].all AV.one = true := by
  obtain ⟨_, rfl⟩ | ⟨o, c, ex, rfl, h2, _⟩ := h.ex
  · cases hj
  · have := List.getElem_mem hj
    exact ⟨h2.szs _ this, h2.known _ this, h2.one _ this⟩

/-! A load, of what is there. -/
noncomputable section
def ldV (x : Option ABlk) (o : Nat) : Option AV := ob (cellOf x o) clearA
/-- n cells, as one. -/
def ldN (n : Nat) (x : Option ABlk) (o : Nat) : Option AV := match x with
  | some (.cells _ cs) => ob (ob (cut cs o n) fun l => some (.agg l)) clearA
  | some (.ro _ f) => ob (ob (roList f o n) fun l => ob (cut l 0 n) fun l => some (.agg l)) clearA
  | _ => none
theorem w_load_n (n b o : Nat) : w_load (some n) H (.ptr (some (b, o))) = vO H (ldN n (H.get b) o) := by
  cases hb : H.get b with
  | none => simp only [w_load, oLoad, partF, val_mk, onPtr, rowTo, hb, ldN, ob_none]
  | some x =>
    cases x with
    | cells e cs => simp only [w_load, oLoad, partF, val_mk, onPtr, rowTo, hb, ldN]
    | ro x f => simp only [w_load, oLoad, partF, val_mk, onPtr, rowTo, hb, ldN, cellsQ]
    | _ => simp only [w_load, oLoad, partF, val_mk, onPtr, rowTo, hb, ldN, ob_none]
theorem ldN_of {x : Option ABlk} {o n : Nat} {l : List AV} (hne : l ≠ []) (hl : l.length = n) (h : ∀ i v, l[i]? = some v → cellOf x (o + i) = some v) (hk : l.all AV.known = true) : ldN n x o = some (.agg l) := by
  have h1 : w_load (some n) (⟨Tr.put .leaf 0 x, 1⟩ : AH) (.ptr (some (0, o))) = some (.val (.agg l) ⟨Tr.put .leaf 0 x, 1⟩) := by
    have hg : (⟨Tr.put .leaf 0 x, 1⟩ : AH).get 0 = x := by show Tr.get (Tr.put .leaf 0 x) 0 = x; rw [Tr.get_put, if_pos rfl]
    exact w_load_ofs hne hl (fun i v hv => by rw [hg]; exact h i v hv) hk
  have hg : (⟨Tr.put .leaf 0 x, 1⟩ : AH).get 0 = x := by show Tr.get (Tr.put .leaf 0 x) 0 = x; rw [Tr.get_put, if_pos rfl]
  rw [w_load_n, hg] at h1
  cases hx : ldN n x o with
  | none => rw [hx] at h1; cases h1
  | some v => rw [hx] at h1; simp only [vO, ob_some, Option.some.injEq, Out.val.injEq] at h1; rw [h1.1]
theorem ldV_of {x : Option ABlk} {o : Nat} {v : AV} (h : cellOf x o = some v) (hk : v.known = true) (h1 : v.one = true) : ldV x o = some v := by
  unfold ldV; rw [h, ob_some, clearA_one hk h1]
theorem w_load_c (b o : Nat) : w_load none H (.ptr (some (b, o))) = vO H (ldV (H.get b) o) := by
  cases hb : H.get b with
  | none => simp only [w_load, oLoad, partF, val_mk, onPtr, rowTo, hb, ldV, cellOf, ob_none]
  | some x =>
    cases x with
    | cells e cs => simp only [w_load, oLoad, partF, val_mk, onPtr, rowTo, hb, ldV, cellOf, nthO_eq]
    | ro x f =>
      simp only [w_load, oLoad, partF, val_mk, onPtr, rowTo, hb, ldV, cellOf, cellsQ]
      have : roList f o 1 = ob (f o) fun x => some [x] := by
        show ob (f o) (fun x => ob (some []) fun l => some (x :: l)) = _
        rfl
      rw [this]
      cases f o <;> simp [nthO_eq]
    | _ => simp only [w_load, oLoad, partF, val_mk, onPtr, rowTo, hb, ldV, cellOf, ob_none]
theorem ldV_cells (e : TypeId) (cs : List AV) (o : Nat) : ldV (some (.cells e cs)) o = ob cs[o]? clearA := rfl
theorem ldV_ro (x : Obj) (f : Nat → Option AV) (o : Nat) : ldV (some (.ro x f)) o = ob (f o) clearA := rfl
theorem clearA_int (k : IntKind) (n : Int) : clearA (.int k n) = some (.int k n) := rfl
theorem clearA_bool (b : Bool) : clearA (.bool b) = some (.bool b) := rfl
theorem clearA_ptr (p : Option (Nat × Nat)) : clearA (.ptr p) = some (.ptr p) := rfl
theorem clearA_slice (p : Option (Nat × Nat)) (n c : Nat) (x : Bool) : clearA (.slice p n c x) = some (.slice p n c x) := rfl
theorem get_new_eq (x : ABlk) {b : Nat} (h : b = H.next) : (H.new x).get b = some x := by rw [get_new, if_pos h]
theorem get_new_ne (x : ABlk) {b : Nat} (h : b ≠ H.next) : (H.new x).get b = H.get b := by rw [get_new, if_neg h]
theorem get_put_same (b : Nat) (x : Option ABlk) : (H.put b x).get b = x := by rw [AH.get_put, if_pos rfl]
theorem get_put_ne (x : Option ABlk) {b c : Nat} (h : c ≠ b) : (H.put b x).get c = H.get c := by rw [AH.get_put, if_neg h]
theorem parts_agg (l : List AV) : (AV.agg l).parts = l := rfl
theorem parts_int (k : IntKind) (n : Int) : (AV.int k n).parts = [.int k n] := rfl
theorem parts_slice (p : Option (Nat × Nat)) (n c : Nat) (x : Bool) : (AV.slice p n c x).parts = [.slice p n c x] := rfl
theorem one_int (k : IntKind) (n : Int) : (AV.int k n).one = true := rfl
theorem one_bool (b : Bool) : (AV.bool b).one = true := rfl
theorem one_ptr (p : Option (Nat × Nat)) : (AV.ptr p).one = true := rfl
theorem one_slice (p : Option (Nat × Nat)) (n c : Nat) (x : Bool) : (AV.slice p n c x).one = true := rfl
theorem w_box_c (e : TypeId) (v : AV) : w_box e H v none = br (v.parts.all AV.one) (some (.val (.ptr (some (H.next, 0))) (H.new (.cells e v.parts)))) none := by
  rw [br_eq]
  split
  · rename_i h; exact w_box_one h
  · rename_i h
    simp only [w_box, oBox, val_mk, allB_eq, h, br_false]
theorem nat_add (a b : Nat) : Nat.add a b = a + b := rfl
theorem beq_tt (b : Bool) : (b == true) = b := by cases b <;> rfl
theorem beq_ff (b : Bool) : (b == false) = !b := by cases b <;> rfl
theorem condP_dec (p : Prop) [Decidable p] (x y : Prop) : condP (.bool (decide p)) x y ↔ (p → x) ∧ (¬ p → y) := by
  by_cases h : p <;> simp [h, condP]
theorem condP_not (p : Prop) [Decidable p] (x y : Prop) : condP (.bool (!decide p)) x y ↔ (¬ p → x) ∧ (p → y) := by
  by_cases h : p <;> simp [h, condP]


/-- A store, over what is there. -/
def stN (n : Nat) (H : AH) (b : Nat) (x : Option ABlk) (o : Nat) (v : AV) : Option Out := match x with
  | some (.cells e cs) => if v.parts.length = n ∧ v.parts.all AV.one = true ∧ v.parts ≠ [] then if o + n ≤ cs.length then some (.skip (H.put b (some (.cells e (cs.take o ++ (v.parts ++ cs.drop (o + n))))))) else none else w_store n H (.ptr (some (b, o))) v
  | _ => w_store n H (.ptr (some (b, o))) v
theorem w_store_c (n b o : Nat) (v : AV) : w_store n H (.ptr (some (b, o))) v = stN n H b (H.get b) o v := by
  unfold stN
  split
  · rename_i e cs hb
    split
    · rename_i hc
      split
      · rename_i ho; exact w_store_cells hb hc.1 hc.2.2 ho hc.2.1
      · rename_i ho
        have hl : lenN v.parts n = true := (lenN_iff _ _).2 hc.1
        have : ¬ (o + v.parts.length ≤ cs.length) := by rw [hc.1]; exact ho
        cases hv : v.parts with
        | nil => exact absurd hv hc.2.2
        | cons y ys =>
          rw [hv] at hl this
          have h1 := hc.2.1
          rw [hv] at h1
          simp only [w_store, oStore, val_mk, onPtr, hv, hl, allB_eq, h1, br_true, sO, writeA, cellsTo, hb, over_eq, if_neg this, ob_none]
    · rfl
  · rfl
theorem stN_cells {n : Nat} (b : Nat) (e : TypeId) (cs : List AV) (o : Nat) (v : AV) (h : v.parts.length = n ∧ v.parts.all AV.one = true ∧ v.parts ≠ []) (ho : o + n ≤ cs.length) :
    stN n H b (some (.cells e cs)) o v = some (.skip (H.put b (some (.cells e (cs.take o ++ (v.parts ++ cs.drop (o + n))))))) := by
  show (if _ then _ else _) = _
  rw [if_pos h, if_pos ho]
/-- One cell of a block of a few. -/
theorem stN_one (b : Nat) (e : TypeId) (cs : List AV) (o : Nat) (v : AV) (h1 : v.one = true) (ho : o < cs.length) : stN 1 H b (some (.cells e cs)) o v = some (.skip (H.put b (some (.cells e (cs.set o v))))) := by
  have hp : v.parts = [v] := by cases v <;> first | rfl | (cases h1; done)
  rw [stN_cells b e cs o v (by rw [hp]; simp [h1]) ho, hp]
  congr 5
  refine List.ext_getElem? fun j => ?_
  rw [show cs.drop (o + 1) = cs.drop (o + [v].length) from rfl, splice_get _ _ _ _ (by simp only [List.length_singleton]; omega), List.getElem?_set]
  by_cases c1 : j < o
  · rw [if_pos c1, if_neg (by omega)]
  · rw [if_neg c1]
    by_cases c2 : o = j
    · subst c2; simp [ho]
    · rw [if_neg (by simp; omega), if_neg c2]
theorem stN_fst (b : Nat) (e : TypeId) (x y v : AV) (h1 : v.one = true) : stN 1 H b (some (.cells e [x, y])) 0 v = some (.skip (H.put b (some (.cells e [v, y])))) := stN_one b e _ 0 v h1 (Nat.zero_lt_succ _)
theorem stN_snd (b : Nat) (e : TypeId) (x y v : AV) (h1 : v.one = true) : stN 1 H b (some (.cells e [x, y])) 1 v = some (.skip (H.put b (some (.cells e [x, v])))) := stN_one b e _ 1 v h1 (Nat.lt_succ_self _)
theorem stN_two (b : Nat) (e : TypeId) (x y u v : AV) (h1 : u.one = true) (h2 : v.one = true) : stN 2 H b (some (.cells e [x, y])) 0 (.agg [u, v]) = some (.skip (H.put b (some (.cells e [u, v])))) :=
  stN_cells b e _ 0 _ ⟨rfl, by simp [AV.parts, h1, h2], by simp [AV.parts]⟩ (Nat.le_refl _)
theorem ldN_pair (e : TypeId) (k k' : IntKind) (m n : Int) : ldN 2 (some (.cells e [.int k m, .int k' n])) 0 = some (.agg [.int k m, .int k' n]) := rfl
end
end Go.Ab
end

section
/- A whole world as an abstract heap: what lies there is read alone. -/


namespace Go.Ab
noncomputable section
variable {P : Program}

/-- The name of a block of the world. -/
def idW (G B : Nat) : Nat := if B < G then B else G + 1 + B
def invW (G b : Nat) : Option Nat := if b < G then some b else if G + 1 + G ≤ b then some (b - (G + 1)) else none
theorem inv_id (G B : Nat) : invW G (idW G B) = some B := by
  unfold invW idW
  by_cases h : B < G
  · rw [if_pos h, if_pos h]
  · rw [if_neg h, if_neg (by omega), if_pos (by omega)]; congr 1; omega
theorem id_inv {G b B : Nat} (h : invW G b = some B) : b = idW G B := by
  unfold invW at h
  split at h
  · cases h; unfold idW; rw [if_pos (by assumption)]
  · split at h
    · cases h; unfold idW; rw [if_neg (by omega)]; omega
    · cases h
/-- A cell, as far as it is read. -/
def absW (G N : Nat) : Value → Option AV
  | .int k n => some (.int k n)
  | .bool b => some (.bool b)
  | .string s => some (.str s.data.toList)
  | .slice none n c => some (.slice none n c true)
  | .slice (some a) n c => if a.spot = none ∧ a.block < N then some (.slice (some (idW G a.block, a.off)) n c true) else if n = 0 ∧ c = 0 then some (.tail 0 0) else none
  | _ => none
def cellW (G N : Nat) (l : AV) (B : Nat) (c : Array Value) (i : Nat) : Option AV := if B = 0 ∧ i = 0 then some l else c[i]?.bind (absW G N)
def roW (G N : Nat) (l : AV) (B : Nat) (x : Option Obj) : Option ABlk := match x with
  | some (.cells c e fr) => some (.ro (.cells c e fr) (cellW G N l B c))
  | _ => none
def trW (G N : Nat) (l : AV) (heap : Nat → Option Obj) : Nat → Tr ABlk
  | 0 => Tr.leaf
  | B + 1 => (trW G N l heap B).put (idW G B) (roW G N l B (heap B))
theorem trW_get (G N : Nat) (l : AV) (heap : Nat → Option Obj) : ∀ (n b : Nat), (trW G N l heap n).get b = (invW G b).bind fun B => if B < n then roW G N l B (heap B) else none
  | 0, b => by
    show Tr.get Tr.leaf b = _
    have : Tr.get (Tr.leaf : Tr ABlk) b = none := rfl
    rw [this]
    cases invW G b <;> rfl
  | n + 1, b => by
    show (Tr.put _ _ _).get b = _
    rw [Tr.get_put, trW_get G N l heap n b]
    by_cases h : b = idW G n
    · subst h; rw [if_pos rfl, inv_id]; simp
    · rw [if_neg h]
      cases hi : invW G b with
      | none => rfl
      | some B =>
        have hb := id_inv hi
        have hB : B ≠ n := fun q => h (by rw [hb, q])
        show (if B < n then _ else none) = if B < n + 1 then _ else none
        by_cases c : B < n
        · rw [if_pos c, if_pos (by omega)]
        · rw [if_neg c, if_neg (by omega)]
/-- The world's heap. -/
def AH.whole (G : Nat) (W : World) (l : AV) : AH := ⟨trW G W.heap.size l (fun B => W.heap[B]?) W.heap.size, G + 1 + W.heap.size⟩
theorem get_whole {G : Nat} {W : World} {l : AV} {b : Nat} {x : ABlk} (h : (AH.whole G W l).get b = some x) : ∃ B c e fr, b = idW G B ∧ B < W.heap.size ∧ W.heap[B]? = some (.cells c e fr) ∧ x = .ro (.cells c e fr) (cellW G W.heap.size l B c) := by
  have h : (trW G W.heap.size l (fun B => W.heap[B]?) W.heap.size).get b = some x := h
  rw [trW_get] at h
  obtain ⟨B, hB, h⟩ := Option.bind_eq_some_iff.1 h
  split at h
  · rename_i hlt
    unfold roW at h
    split at h
    · rename_i c e fr hc
      cases h
      exact ⟨B, c, e, fr, id_inv hB, hlt, hc, rfl⟩
    · cases h
  · cases h
theorem whole_get {G : Nat} {W : World} {l : AV} {B : Nat} {c : Array Value} {e : TypeId} {fr : Nat × Nat} (h : W.heap[B]? = some (.cells c e fr)) : (AH.whole G W l).get (idW G B) = some (.ro (.cells c e fr) (cellW G W.heap.size l B c)) := by
  show (trW G W.heap.size l (fun B => W.heap[B]?) W.heap.size).get (idW G B) = _
  have hlt : B < W.heap.size := (Array.getElem?_eq_some_iff.1 h).1
  rw [trW_get, inv_id]
  show (if B < W.heap.size then roW G W.heap.size l B (W.heap[B]?) else none) = _
  rw [if_pos hlt, h]; rfl
def rhoW (G N : Nat) : Env := fun b => if b < G + 1 then some ⟨b, 0, 0⟩ else if b < G + 1 + N then some ⟨b - (G + 1), 0, 0⟩ else none
theorem rhoW_in {G N B : Nat} (h : B < N) : rhoW G N (idW G B) = some ⟨B, 0, 0⟩ := by
  unfold rhoW idW
  by_cases q : B < G
  · rw [if_pos q, if_pos (by omega)]
  · rw [if_neg q, if_neg (by omega), if_pos (by omega)]; congr 2; omega
theorem id_lt {G N B : Nat} (h : B < N) : idW G B < G + 1 + N := by unfold idW; split <;> omega
theorem rel_absW {G N : Nat} : ∀ {v : Value} {x : AV}, absW G N v = some x → x.one = true ∧ x.known = true ∧ Rel (rhoW G N) x v := by
  intro v x h
  unfold absW at h
  split at h
  · cases h; exact ⟨rfl, rfl, rfl⟩
  · cases h; exact ⟨rfl, rfl, rfl⟩
  · cases h; exact ⟨rfl, rfl, by show Value.string _ = _; simp⟩
  · cases h; exact ⟨rfl, rfl, rfl⟩
  · rename_i a n c
    split at h
    · rename_i hB
      obtain ⟨B, o, s⟩ := a
      obtain ⟨hs, hB⟩ := hB
      have hs : s = none := hs
      subst hs
      cases h
      exact ⟨rfl, rfl, _, rhoW_in hB, by simp⟩
    · split at h
      · rename_i hz
        obtain ⟨rfl, rfl⟩ := hz
        cases h
        exact ⟨rfl, rfl, _, _, rfl, .inl rfl⟩
      · cases h
  · cases h

theorem real_whole {W : World} {rt h : Nat} (hl : W.cell? ⟨0, 0, none⟩ = some (.iface rt (.agg #[.pointer (some ⟨P.globals.size, h, none⟩)]))) : Real P (rhoW P.globals.size W.heap.size) (AH.whole P.globals.size W (laidV rt P.globals.size h)) W := by
  have hrho : ∀ b, b < P.globals.size + 1 → rhoW P.globals.size W.heap.size b = some ⟨b, 0, 0⟩ := fun b hb => if_pos hb
  refine ⟨fun b x hx => ?_, fun b b' l l' q1 q2 k1 k2 hb => ?_, fun b hb => ?_, fun g hg => hrho g hg⟩
  · obtain ⟨B, c, e, fr, rfl, hlt, hc, rfl⟩ := get_whole hx
    refine ⟨⟨B, 0, 0⟩, c, e, fr, rhoW_in hlt, hc, rfl, fun i y hy => ?_⟩
    unfold cellW at hy
    split at hy
    · rename_i h0
      obtain ⟨rfl, rfl⟩ := h0
      cases hy
      have hcell : c[0]? = some (.iface rt (.agg #[.pointer (some ⟨P.globals.size, h, none⟩)])) := by simpa [World.cell?, hc] using hl
      exact ⟨rfl, _, hcell, ⟨_, rfl, _, rfl, _, _, rfl, ⟨_, hrho _ (Nat.lt_succ_self _), by simp⟩, rfl⟩⟩
    · obtain ⟨v, hv, hy⟩ := Option.bind_eq_some_iff.1 hy
      obtain ⟨h1, _, h3⟩ := rel_absW hy
      exact ⟨h1, v, by simpa using hv, h3⟩
  · obtain ⟨x, hx⟩ := Option.ne_none_iff_exists'.1 q1
    obtain ⟨x', hx'⟩ := Option.ne_none_iff_exists'.1 q2
    obtain ⟨B, c, e, fr, rfl, hlt, hc, rfl⟩ := get_whole hx
    obtain ⟨B', c', e', fr', rfl, hlt', hc', rfl⟩ := get_whole hx'
    rw [rhoW_in hlt] at k1
    rw [rhoW_in hlt'] at k2
    cases k1; cases k2
    exact congrArg (idW P.globals.size) hb
  · have hb : P.globals.size + 1 + W.heap.size ≤ b := hb
    unfold rhoW
    rw [if_neg (by omega), if_neg (by omega)]
theorem whole_ro {G : Nat} {W : World} {l : AV} {b : Nat} {x : ABlk} (hx : (AH.whole G W l).get b = some x) : ∃ ob' f, x = .ro ob' f := by
  obtain ⟨B, c, e, fr, _, _, _, rfl⟩ := get_whole hx
  exact ⟨_, _, rfl⟩
theorem whole_lt {G : Nat} {W : World} {l : AV} {b : Nat} (hx : (AH.whole G W l).get b ≠ none) : b < (AH.whole G W l).next := by
  obtain ⟨x, hx⟩ := Option.ne_none_iff_exists'.1 hx
  obtain ⟨B, c, e, fr, rfl, hlt, _⟩ := get_whole hx
  exact id_lt hlt
/-- What a cell of the world is, in it. -/
theorem cellOf_whole {G : Nat} {W : World} {l : AV} {B o : Nat} {v : Value} {y : AV} (h0 : ∀ t x, v ≠ .iface t x) (hl : ∃ t x, W.cell? ⟨0, 0, none⟩ = some (.iface t x)) (hc : W.cell? ⟨B, o, none⟩ = some v) (hy : absW G W.heap.size v = some y) : cellOf ((AH.whole G W l).get (idW G B)) o = some y := by
  have hne : ¬ (B = 0 ∧ o = 0) := by
    rintro ⟨rfl, rfl⟩
    obtain ⟨t, x, hl⟩ := hl
    rw [hl] at hc
    cases hc
    exact h0 _ _ rfl
  unfold World.cell? at hc
  split at hc
  · rename_i c e fr hb
    have hb : W.heap[B]? = some (.cells c e fr) := hb
    simp only [Option.isSome_none, Bool.false_eq_true, if_false] at hc
    rw [whole_get hb, cellOf_ro]
    unfold cellW
    rw [if_neg hne, show c[o]? = some v from hc]; exact hy
  · cases hc
end
end Go.Ab
end

section
/- An argument that is a slice, as a row in the world's heap. -/




namespace Go.Ab
open Go.ChangeShapes Go.WideShapes Go.Deep
noncomputable section
variable {P : Program}

theorem add_none {a : Addr} (h : a.spot = none) (n : Nat) : a.add n = ⟨a.block, a.off + n, none⟩ := by
  obtain ⟨B, o, s⟩ := a
  cases h
  unfold Addr.add
  split
  · rename_i h; subst h; rfl
  · rfl
theorem in_row {H : Type} {enc : TypeId × Value → H} {W : World} {α : Type} (dec : α → List AV) (val : α → List Value) {G sz : Nat} {l : AV} {t e : TypeId} {r : Reach} {b0 : Nat} {v : Value} {d : DataW H} {p : List MemPlace}
    (ht : P.underlying t = some (.slice e)) (hsz : P.cellsOf e = sz) (_hz : 0 < sz) (hl : ∃ t x, W.cell? ⟨0, 0, none⟩ = some (.iface t x))
    (hdl : ∀ a, (dec a).length = sz) (hvl : ∀ a, (val a).length = sz) (hdv : ∀ (a : α) (i : Nat) (x : AV), (dec a)[i]? = some x → ∃ y, (val a)[i]? = some y ∧ absW G W.heap.size y = some x ∧ ∀ t z, y ≠ .iface t z)
    (hel : ∀ n cs y, DataW.trod enc P W 0 (fun _ => true) true n e cs = some y → ∃ a, cs = val a)
    (hv : Value.okWide P W r b0 t v) (h : DataW.Trod enc P W 0 (fun _ => true) true t v d p) :
    ∃ (b : Nat) (s : AV) (L : List α), Rel (rhoW G W.heap.size) s v ∧ b < (AH.whole G W l).next ∧ Sl (AH.whole G W l) sz b s (L.map dec) ∧ L.length ≤ maxLen := by
  obtain ⟨a0, len0, cap0, rfl⟩ := okWide_slice ht hv
  have hcell : (Value.slice a0 len0 cap0).cells.toList = [Value.slice a0 len0 cap0] := rfl
  obtain ⟨fuel, h⟩ := h
  rw [hcell] at h
  rcases open_slice ht h with ⟨h1, -⟩ | ⟨a, len, cap, m, n, D, Pl, hcs, hb, hle, hm, hmm, hx, hi⟩
  · simp only [List.cons.injEq, Value.slice.injEq, and_true] at h1
    obtain ⟨rfl, rfl, rfl⟩ := h1
    exact ⟨0, .slice none 0 0 true, [], rfl, Nat.lt_of_lt_of_le (Nat.succ_pos _) (Nat.le_add_right _ _), ⟨.inl ⟨.inl rfl, rfl⟩⟩, Nat.zero_le _⟩
  · simp only [List.cons.injEq, Value.slice.injEq, and_true] at hcs
    obtain ⟨rfl, rfl, rfl⟩ := hcs
    have hok : W.has P r b0 a e cap0 := by
      unfold Value.okWide at hv
      rw [ht] at hv
      simp only [Cell.okWide, ht, Cell.ok] at hv
      exact hv.2.2
    obtain ⟨_, hspot, row, cells, hsh, _⟩ := hok
    have hlt : a.block < W.heap.size := by
      unfold World.shape? at hsh
      split at hsh
      · rename_i hh; exact (Array.getElem?_eq_some_iff.1 hh).1
      · cases hsh
    have hmc : m = cap0 := by simpa using hmm
    have hex : ∀ i : Fin len0, ∃ x : α, W.cells? 0 (a.add (i.1 * sz)) sz = some (val x) := by
      intro i
      obtain ⟨cs', hc, ht'⟩ := hi i.1 (by have := i.2; omega)
      obtain ⟨x, rfl⟩ := hel _ _ _ ht'
      rw [hsz] at hc
      exact ⟨x, hc⟩
    refine ⟨idW G a.block, .slice (some (idW G a.block, a.off)) len0 cap0 true, List.ofFn fun i => Classical.choose (hex i), ⟨_, rhoW_in hlt, ?_⟩, id_lt hlt, ⟨.inr ⟨a.off, cap0, true, ?_, ⟨id_lt hlt, fun x hx => ?_, fun x hx => ?_, fun x hx => ?_, fun j x hx i y hy => ?_⟩, ?_⟩⟩, ?_⟩
    · obtain ⟨B, o, s⟩ := a
      cases hspot
      simp
    · rw [List.length_map, List.length_ofFn]
    · obtain ⟨z, _, rfl⟩ := List.mem_map.1 hx; exact hdl z
    · obtain ⟨z, _, rfl⟩ := List.mem_map.1 hx
      rw [List.all_eq_true]
      intro y hy
      obtain ⟨i, hi, rfl⟩ := List.mem_iff_getElem.1 hy
      obtain ⟨w, _, h2, _⟩ := hdv z i _ (List.getElem?_eq_getElem hi)
      exact (rel_absW h2).2.1
    · obtain ⟨z, _, rfl⟩ := List.mem_map.1 hx
      rw [List.all_eq_true]
      intro y hy
      obtain ⟨i, hi, rfl⟩ := List.mem_iff_getElem.1 hy
      obtain ⟨w, _, h2, _⟩ := hdv z i _ (List.getElem?_eq_getElem hi)
      exact (rel_absW h2).1
    · rw [List.getElem?_map] at hx
      obtain ⟨z, hz', rfl⟩ := Option.map_eq_some_iff.1 hx
      rw [List.getElem?_ofFn] at hz'
      split at hz'
      · rename_i hj
        cases hz'
        have hc := Classical.choose_spec (hex ⟨j, hj⟩)
        generalize Classical.choose (hex ⟨j, hj⟩) = z at hc hy
        obtain ⟨w, h1, h2, h3⟩ := hdv z i y hy
        have hi' : i < sz := by have := (List.getElem?_eq_some_iff.1 h1).1; rw [hvl] at this; exact this
        obtain ⟨_, _, hat⟩ := World.cells?_some hc
        have hcell := hat i hi'
        rw [add_none hspot, add_none (by rfl)] at hcell
        exact cellOf_whole h3 hl (hcell.trans h1) h2
      · cases hz'
    · rw [List.length_map, List.length_ofFn]; exact hle
    · rw [List.length_ofFn]; omega
end
end Go.Ab
end

section
/- Slices that are owned: read, written, appended to. -/

namespace Go.Ab
noncomputable section
variable {P : Program} {C : CW} {H H' : AH}

/-! Rows of elements, one behind the other. -/
theorem flatten_len {sz : Nat} : ∀ {X : List (List AV)}, (∀ x ∈ X, x.length = sz) → X.flatten.length = X.length * sz
  | [], _ => by simp
  | x :: X, h => by
    rw [List.flatten_cons, List.length_append, flatten_len fun y hy => h y (by simp [hy]), h x (by simp), List.length_cons, Nat.succ_mul]; omega
theorem flatten_at {sz : Nat} : ∀ {X : List (List AV)}, (∀ x ∈ X, x.length = sz) → ∀ {j : Nat} {x : List AV}, X[j]? = some x → ∀ {i : Nat}, i < sz → X.flatten[j * sz + i]? = x[i]?
  | [], _, j, x, h, _, _ => by simp at h
  | y :: X, h, 0, x, hx, i, hi => by
    simp at hx; subst hx
    rw [List.flatten_cons, List.getElem?_append_left (by rw [h y (by simp)]; omega)]; congr 1; omega
  | y :: X, h, j + 1, x, hx, i, hi => by
    have h1 := h y (by simp)
    have e : (j + 1) * sz + i = sz + (j * sz + i) := by rw [Nat.succ_mul]; omega
    rw [List.flatten_cons, List.getElem?_append_right (by rw [h1, e]; omega), h1]
    rw [← flatten_at (X := X) (fun y hy => h y (by simp [hy])) (j := j) (x := x) (by simpa using hx) hi]
    congr 1; omega
theorem flatten_take {sz : Nat} {X : List (List AV)} (h : ∀ x ∈ X, x.length = sz) (n : Nat) : X.flatten.take (n * sz) = (X.take n).flatten := by
  rcases Nat.lt_or_ge n X.length with q | q
  · have e : X = X.take n ++ X.drop n := (List.take_append_drop n X).symm
    conv => lhs; rw [e]
    rw [List.flatten_append, List.take_left']
    rw [flatten_len (fun x hx => h x (List.mem_of_mem_take hx)), List.length_take, Nat.min_eq_left (Nat.le_of_lt q)]
  · rw [List.take_of_length_le q, List.take_of_length_le]
    rw [flatten_len h]; exact Nat.mul_le_mul_right _ q
theorem flatten_all {p : AV → Bool} {X : List (List AV)} (h : ∀ x ∈ X, x.all p = true) : X.flatten.all p = true := by
  rw [List.all_eq_true]
  intro y hy
  obtain ⟨x, hx, hy⟩ := List.mem_flatten.1 hy
  exact List.all_eq_true.1 (h x hx) y hy
theorem mod_lt' {t n sz : Nat} (h : t < n * sz) : t / sz < n ∧ t % sz < sz ∧ t / sz * sz + t % sz = t := by
  have hs : 0 < sz := Nat.pos_of_ne_zero fun q => by subst q; omega
  exact ⟨(Nat.div_lt_iff_lt_mul hs).2 h, Nat.mod_lt _ hs, by rw [Nat.mul_comm]; exact Nat.div_add_mod t sz⟩

theorem cellOf_some {x : Option ABlk} {o : Nat} {v : AV} (h : cellOf x o = some v) : (∃ e cs, x = some (.cells e cs) ∧ cs[o]? = some v) ∨ ∃ ob' f, x = some (.ro ob' f) ∧ f o = some v := by
  unfold cellOf at h
  split at h
  · exact .inl ⟨_, _, rfl, h⟩
  · exact .inr ⟨_, _, rfl, h⟩
  · cases h

/-- What a slice holds, as cells. -/
theorem Sl.cells {sz b : Nat} {s : AV} {X : List (List AV)} (h : Sl H sz b s X) (hz : 0 < sz) {m : Nat} (hm : m ≤ X.length) : sliceCells H sz m s = some (X.take m).flatten := by
  obtain ⟨rfl | ⟨_, _, rfl⟩, rfl⟩ | ⟨o, c, ex, rfl, h2, h3⟩ := h.ex
  · obtain rfl : m = 0 := by simpa using hm
    rfl
  · obtain rfl : m = 0 := by simpa using hm
    rfl
  · by_cases m0 : m = 0
    · subst m0; rfl
    · have hsT : ∀ x ∈ X.take m, x.length = sz := fun x hx => h2.szs x (List.mem_of_mem_take hx)
      have hfl : (X.take m).flatten.length = m * sz := by rw [flatten_len hsT, List.length_take, Nat.min_eq_left hm]
      have hk : (X.take m).flatten.all AV.known = true := flatten_all fun x hx => h2.known x (List.mem_of_mem_take hx)
      have get : ∀ t, t < m * sz → ∃ v, (X.take m).flatten[t]? = some v ∧ cellOf (H.get b) (o + t) = some v := by
        intro t ht
        obtain ⟨q1, q2, q3⟩ := mod_lt' ht
        have hx : (X.take m)[t / sz]? = some (X[t / sz]'(by omega)) := by rw [List.getElem?_take, if_pos q1]; exact List.getElem?_eq_getElem _
        have hx' : X[t / sz]? = some (X[t / sz]'(by omega)) := List.getElem?_eq_getElem _
        have hsz := h2.szs _ (List.mem_of_getElem? hx')
        have hv : (X[t / sz]'(by omega))[t % sz]? = some ((X[t / sz]'(by omega))[t % sz]'(by omega)) := List.getElem?_eq_getElem _
        refine ⟨_, by rw [← q3, flatten_at hsT hx q2]; exact hv, ?_⟩
        have := h2.cell _ _ hx' _ _ hv
        rwa [Nat.add_assoc, q3] at this
      have hpos : 0 < m * sz := Nat.mul_pos (by omega) hz
      obtain ⟨v0, _, hc0⟩ := get 0 hpos
      obtain ⟨vl, _, hcl⟩ := get (m * sz - 1) (by omega)
      rcases cellOf_some hc0 with ⟨e, cs, hb, _⟩ | ⟨ob', f, hb, _⟩
      · have hlen : o + m * sz ≤ cs.length := by
          rw [hb, cellOf_cells] at hcl
          have := (List.getElem?_eq_some_iff.1 hcl).1; omega
        refine sliceCells_cells hb hm hlen (seg_eq hfl fun t ht => ?_) hk
        obtain ⟨v, e1, e2⟩ := get t ht
        rw [hb, cellOf_cells] at e2
        rw [e1, e2]
      · have h1 : Nat.ble m X.length = true := by simpa using hm
        have h0 : Nat.beq m 0 = false := Bool.eq_false_iff.2 fun q => m0 (Nat.eq_of_beq_eq_true q)
        have hr : roList f o (Nat.mul m sz) = some (X.take m).flatten := roList_of hfl fun t v hv => by
          have ht : t < m * sz := by have := (List.getElem?_eq_some_iff.1 hv).1; omega
          obtain ⟨v', e1, e2⟩ := get t ht
          rw [hb, cellOf_ro] at e2
          rw [e2, ← e1, hv]
        simp only [sliceCells, h1, br_true, h0, br_false, rowTo, hb, hr, ob_some, allB_eq, hk]
theorem Sl.sz {sz b : Nat} {s : AV} {X : List (List AV)} (h : Sl H sz b s X) : (∀ x ∈ X, x.length = sz) ∧ (∀ x ∈ X, x.all AV.known = true) ∧ (∀ x ∈ X, x.all AV.one = true) := by
  obtain ⟨_, rfl⟩ | ⟨o, c, ex, rfl, h2, h3⟩ := h.ex
  · exact ⟨by simp, by simp, by simp⟩
  · exact ⟨h2.szs, h2.known, h2.one⟩

theorem SlAt.drop {sz b o : Nat} {X : List (List AV)} (h : SlAt H sz b o X) (l m : Nat) : SlAt H sz b (o + l * sz) ((X.drop l).take m) := by
  have hm : ∀ x ∈ (X.drop l).take m, x ∈ X := fun x hx => List.mem_of_mem_drop (List.mem_of_mem_take hx)
  refine ⟨h.lt, fun x hx => h.szs x (hm x hx), fun x hx => h.known x (hm x hx), fun x hx => h.one x (hm x hx), fun j x hx i v hv => ?_⟩
  rw [List.getElem?_take] at hx
  split at hx
  · rw [List.getElem?_drop] at hx
    have := h.cell _ _ hx i v hv
    rw [Nat.add_mul, ← Nat.add_assoc] at this
    exact this
  · cases hx
/-- A part of a slice. -/
theorem Sl.cut {sz b : Nat} {s : AV} {X : List (List AV)} (h : Sl H sz b s X) {hasHi : Bool} (lo hi : Option (IntKind × Nat)) (h1 : loN 0 lo ≤ loN X.length hi) (h2 : loN X.length hi ≤ X.length) :
    ∃ s', (∀ G : AH, w_slice (.sl sz) hasHi false G s (loB lo) (loB hi) none = some (.val s' G)) ∧ Sl H sz b s' ((X.drop (loN 0 lo)).take (loN X.length hi - loN 0 lo)) := by
  have e0 : ∀ c, bndO c c none = some c := fun _ => rfl
  have e1 : ∀ c, loN X.length hi ≤ c → bndO X.length c (loB hi) = some (loN X.length hi) := fun c q => by cases hi with | none => rfl | some p => obtain ⟨k, i⟩ := p; exact bndA_of k q
  have e2 : bndO 0 (loN X.length hi) (loB lo) = some (loN 0 lo) := by cases lo with | none => rfl | some p => obtain ⟨k, i⟩ := p; exact bndA_of k h1
  obtain ⟨rfl | ⟨tb, to, rfl⟩, rfl⟩ | ⟨o, c, ex, rfl, h3, h4⟩ := h.ex
  · have z1 : loN 0 hi = 0 := Nat.le_zero.1 h2
    have h1' : loN 0 lo ≤ loN 0 hi := h1
    have z2 : loN 0 lo = 0 := by omega
    refine ⟨.slice none 0 0 true, fun G => ?_, ⟨.inl ⟨.inl rfl, by simp⟩⟩⟩
    have e1 : bndO 0 0 (loB hi) = some (loN 0 hi) := e1 0 h2
    have e2 : bndO 0 (loN 0 hi) (loB lo) = some (loN 0 lo) := e2
    rw [z1] at e1 e2
    rw [z2] at e2
    simp only [w_slice, sliceA, Bool.false_and, br_false, val_mk, bndsTo, e0, ob_some, e1, e2, Bool.or_true, br_true]
    rfl
  · have z1 : loN 0 hi = 0 := Nat.le_zero.1 h2
    have h1' : loN 0 lo ≤ loN 0 hi := h1
    have z2 : loN 0 lo = 0 := by omega
    refine ⟨.tail tb to, fun G => ?_, ⟨.inl ⟨.inr ⟨_, _, rfl⟩, by simp⟩⟩⟩
    have e1 : bndO 0 0 (loB hi) = some (loN 0 hi) := e1 0 h2
    have e2 : bndO 0 (loN 0 hi) (loB lo) = some (loN 0 lo) := e2
    simp only [w_slice, sliceA, Bool.false_and, br_false, val_mk, bndsTo, e0, ob_some, e1, e2]
    rfl
  · have hl : ((X.drop (loN 0 lo)).take (loN X.length hi - loN 0 lo)).length = loN X.length hi - loN 0 lo := by rw [List.length_take, List.length_drop]; omega
    have nil : loN X.length hi - loN 0 lo = 0 → (X.drop (loN 0 lo)).take (loN X.length hi - loN 0 lo) = [] := fun q => by rw [q]; rfl
    cases ex with
    | true =>
      refine ⟨_, fun G => w_slice_ex (c := c) lo hi h1 (Nat.le_trans h2 h4), ⟨.inr ⟨_, c - loN 0 lo, true, by rw [hl], ?_, by rw [hl]; omega⟩⟩⟩
      split
      · rename_i q
        rw [nil (by omega)]
        exact ⟨h3.lt, by simp, by simp, by simp, fun j x hx => by simp at hx⟩
      · exact h3.drop _ _
    | false =>
      by_cases q : loN 0 lo < c
      · exact ⟨_, fun G => w_slice_op (c := c) lo hi h1 (Nat.le_trans h2 h4) q, ⟨.inr ⟨_, c - loN 0 lo, false, by rw [hl], h3.drop _ _, by rw [hl]; omega⟩⟩⟩
      · refine ⟨.tail b (o + loN 0 lo * sz), fun G => ?_, ⟨.inl ⟨.inr ⟨_, _, rfl⟩, nil (by omega)⟩⟩⟩
        have c1 : Nat.beq c (loN 0 lo) = true := by simp; omega
        have c2 : Nat.beq (loN X.length hi) (loN 0 lo) = true := by simp; omega
        simp only [w_slice, sliceA, Bool.false_and, br_false, val_mk, bndsTo, e0, ob_some, e1 c (Nat.le_trans h2 h4), e2, Bool.or_false, c1, c2, br_true]
        rfl

/-- A slice over a block of its own. -/
structure Own (H : AH) (e : TypeId) (sz B : Nat) (s : AV) (X : List (List AV)) : Prop where
  ex : (s = .slice none 0 0 true ∧ X = []) ∨ ∃ o c ex cs, s = .slice (some (B, o)) X.length c ex ∧ H.get B = some (.cells e cs) ∧ X.length ≤ c ∧ o + c * sz ≤ cs.length ∧ (ex = false → cs.length = o + c * sz) ∧ (cs.drop o).take (X.length * sz) = X.flatten ∧ B < H.next
  szs : ∀ x ∈ X, x.length = sz
  known : ∀ x ∈ X, x.all AV.known = true
  one : ∀ x ∈ X, x.all AV.one = true
theorem Own.mono {e : TypeId} {sz B : Nat} {s : AV} {X : List (List AV)} (h : Own H e sz B s X) {m : List Nat} (q : Ext m H H') (hb : B ∉ m) : Own H' e sz B s X := by
  refine ⟨?_, h.szs, h.known, h.one⟩
  obtain ⟨rfl, rfl⟩ | ⟨o, c, ex, cs, rfl, h1, h2, h3, h4, h5, h6⟩ := h.ex
  · exact .inl ⟨rfl, rfl⟩
  · exact .inr ⟨o, c, ex, cs, rfl, q.get h6 hb h1, h2, h3, h4, h5, Nat.lt_of_lt_of_le h6 q.next⟩
theorem Own.sl {e : TypeId} {sz B : Nat} {s : AV} {X : List (List AV)} (h : Own H e sz B s X) : Sl H sz B s X := by
  obtain ⟨rfl, rfl⟩ | ⟨o, c, ex, cs, rfl, h1, h2, h3, h4, h5, h6⟩ := h.ex
  · exact ⟨.inl ⟨.inl rfl, rfl⟩⟩
  · refine ⟨.inr ⟨o, c, ex, rfl, ⟨h6, h.szs, h.known, h.one, fun j x hx i v hv => ?_⟩, h2⟩⟩
    have hj : j < X.length := (List.getElem?_eq_some_iff.1 hx).1
    have hi : i < sz := by have := (List.getElem?_eq_some_iff.1 hv).1; have := h.szs x (List.mem_of_getElem? hx); omega
    have hb : j * sz + i < X.length * sz := by
      have : (j + 1) * sz ≤ X.length * sz := Nat.mul_le_mul_right _ hj
      rw [Nat.succ_mul] at this; omega
    rw [h1, cellOf_cells, ← hv, ← flatten_at h.szs hx hi, ← h5, List.getElem?_take, if_pos hb, List.getElem?_drop, Nat.add_assoc]
theorem Own.low {e : TypeId} {sz B : Nat} {s : AV} {X : List (List AV)} (h : Own H e sz B s X) : B < H.next ∨ X = [] := by
  obtain ⟨rfl, rfl⟩ | ⟨o, c, ex, cs, rfl, h1, h2, h3, h4, h5, h6⟩ := h.ex
  · exact .inr rfl
  · exact .inl h6
theorem Sl.mono' {sz b : Nat} {s : AV} {X : List (List AV)} (h : Sl H sz b s X) {m : List Nat} (q : Ext m H H') (hb : b ∈ m → X = []) : Sl H' sz b s X := by
  by_cases c : b ∈ m
  · obtain q1 | ⟨o, cc, ex, rfl, h2, h3⟩ := h.ex
    · exact ⟨.inl q1⟩
    · have hx := hb c
      subst hx
      exact ⟨.inr ⟨o, cc, ex, rfl, ⟨Nat.lt_of_lt_of_le h2.lt q.next, by simp, by simp, by simp, fun j x hx => by simp at hx⟩, h3⟩⟩
  · exact h.mono q c
theorem Own.facts {e : TypeId} {sz B : Nat} {s : AV} {X : List (List AV)} (h : Own H e sz B s X) : s.one = true ∧ clearA s = some s ∧ s.parts = [s] ∧ s.known = true := by
  obtain ⟨rfl, rfl⟩ | ⟨o, c, ex, cs, rfl, _⟩ := h.ex <;> exact ⟨rfl, rfl, rfl, rfl⟩
theorem Own.nil (H : AH) (e : TypeId) (sz B : Nat) : Own H e sz B (.slice none 0 0 true) [] := ⟨.inl ⟨rfl, rfl⟩, by simp, by simp, by simp⟩

/-- append. -/
theorem Own.append {e : TypeId} {sz B b by_ : Nat} {s y : AV} {X Y : List (List AV)} (h : Own H e sz B s X) (hy : Sl H sz b y Y) (hz : 0 < sz) (hb : (2 * (X.length + Y.length) + 1024) * by_ ≤ 281474976710656) :
    ∃ s' H' B', w_append e sz by_ H s y none = some (.val s' H') ∧ Ext [B] H H' ∧ (B' = B ∨ H.next ≤ B') ∧ Own H' e sz B' s' (X ++ Y) := by
  have hlA := hy.lenA
  have hV := hy.cells hz (Nat.le_refl _)
  rw [List.take_of_length_le (Nat.le_refl _)] at hV
  obtain ⟨y1, y2, y3⟩ := hy.sz
  have hXY : (∀ x ∈ X ++ Y, x.length = sz) ∧ (∀ x ∈ X ++ Y, x.all AV.known = true) ∧ (∀ x ∈ X ++ Y, x.all AV.one = true) := by
    refine ⟨fun x hx => ?_, fun x hx => ?_, fun x hx => ?_⟩ <;> rcases List.mem_append.1 hx with q | q
    · exact h.szs x q
    · exact y1 x q
    · exact h.known x q
    · exact y2 x q
    · exact h.one x q
    · exact y3 x q
  by_cases hY : Y = []
  · subst hY
    have hV0 : sliceCells H sz 0 y = some [] := hV
    refine ⟨s, H, B, ?_, Ext.refl _ _, .inl rfl, by rw [List.append_nil]; exact h⟩
    have hn : newCells sz y H = some (0, []) := by simp only [newCells, hlA, ob_some]; rw [show ([] : List (List AV)).length = 0 from rfl, hV0, ob_some]
    obtain ⟨rfl, rfl⟩ | ⟨o, c, ex, cs, rfl, h1, h2, h3, h4, h5, h6⟩ := h.ex
    · simp only [w_append, hn, ob2_some, appendTo]; rfl
    · have c1 : Nat.ble (Nat.add X.length 0) c = true := by simpa using h2
      simp only [w_append, hn, ob2_some, appendTo, c1, br_true, writeA, ob_some]; rfl
  · have hYl : 0 < Y.length := List.length_pos_iff.2 hY
    have hfl := flatten_len y1
    have hne : Y.flatten ≠ [] := fun q => by rw [q] at hfl; have := Nat.mul_pos hYl hz; simp at hfl; omega
    obtain ⟨rfl, rfl⟩ | ⟨o, c, ex, cs, rfl, h1, h2, h3, h4, h5, h6⟩ := h.ex
    · refine ⟨_, _, H.next, w_append_grow (L := []) hlA hV (by omega) (by simpa using hb) (sliceCells_nil sz 0 true 0), (Ext.refl _ _).new _, .inr (Nat.le_refl _), ⟨.inr ⟨0, 0 + Y.length, false, Y.flatten, ?_, get_new_same _ _, ?_, ?_, ?_, ?_, ?_⟩, hXY.1, hXY.2.1, hXY.2.2⟩⟩
      · rw [List.nil_append, Nat.zero_add]
      · simp
      · simp [hfl]
      · simp [hfl]
      · rw [List.nil_append, List.drop_zero, ← hfl, List.take_length]
      · rw [next_new]; omega
    · have hlX := flatten_len h.szs
      have hL : sliceCells H sz X.length (.slice (some (B, o)) X.length c ex) = some X.flatten :=
        sliceCells_cells h1 (Nat.le_refl _) (by have := Nat.mul_le_mul_right sz h2; omega) h5 (flatten_all h.known)
      have hfa : (X ++ Y).flatten = X.flatten ++ Y.flatten := List.flatten_append
      have hn : newCells sz y H = some (Y.length, Y.flatten) := by simp only [newCells, hlA, ob_some, hV]
      by_cases hr : X.length + Y.length ≤ c
      · have c1 : Nat.ble (Nat.add X.length Y.length) c = true := by simpa using hr
        have hm := Nat.mul_le_mul_right sz hr
        rw [Nat.add_mul] at hm
        have hw := writeA_eq (o := o + X.length * sz) h1 hne (by rw [hfl]; omega)
        refine ⟨.slice (some (B, o)) (X.length + Y.length) c ex, H.put B (some (.cells e (cs.take (o + X.length * sz) ++ (Y.flatten ++ cs.drop (o + X.length * sz + Y.flatten.length))))), B, ?_, (Ext.refl _ _).put (.inr (by simp)) _, .inl rfl, ⟨.inr ⟨o, c, ex, _, by rw [List.length_append], get_put_same _ _, by rw [List.length_append]; exact hr, ?_, fun q => ?_, ?_, ?_⟩, hXY.1, hXY.2.1, hXY.2.2⟩⟩
        · simp only [w_append, hn, ob2_some, appendTo, c1, br_true]
          show ob (writeA H B (o + X.length * sz) Y.flatten) _ = _
          rw [hw, ob_some]; rfl
        · rw [splice_length _ _ _ (by rw [hfl]; omega)]; exact h3
        · rw [splice_length _ _ _ (by rw [hfl]; omega)]; exact h4 q
        · refine seg_eq (by rw [hfa, List.length_append, hlX, hfl, List.length_append, Nat.add_mul]) fun t ht => ?_
          rw [List.length_append, Nat.add_mul] at ht
          rw [splice_get _ _ _ _ (by rw [hfl]; omega), hfa]
          by_cases q : t < X.length * sz
          · rw [if_pos (by omega), List.getElem?_append_left (by rw [hlX]; exact q), ← h5, List.getElem?_take, if_pos q, List.getElem?_drop]
          · rw [if_neg (by omega), if_pos (by rw [hfl]; omega), List.getElem?_append_right (by rw [hlX]; omega), hlX]
            congr 1; omega
        · rw [AH.next_put]; exact h6
      · have c1 : Nat.ble (Nat.add X.length Y.length) c = false := Bool.eq_false_iff.2 fun q => hr (Nat.le_of_ble_eq_true q)
        have c2 : Nat.ble (Nat.mul (Nat.add (Nat.mul 2 (Nat.add X.length Y.length)) 1024) by_) 281474976710656 = true := by simpa using hb
        have fin : ∀ G : AH, G.next = H.next → Own (G.new (.cells e (X.flatten ++ Y.flatten))) e sz H.next (.slice (some (H.next, 0)) (X.length + Y.length) (X.length + Y.length) false) (X ++ Y) := by
          intro G hG
          have hll : (X.flatten ++ Y.flatten).length = (X.length + Y.length) * sz := by rw [List.length_append, hlX, hfl, Nat.add_mul]
          refine ⟨.inr ⟨0, _, _, _, by rw [List.length_append], by rw [← hG]; exact get_new_same _ _, by rw [List.length_append]; exact Nat.le_refl _, by rw [hll]; omega, fun _ => by rw [hll]; omega, ?_, by rw [next_new]; omega⟩, hXY.1, hXY.2.1, hXY.2.2⟩
          rw [List.drop_zero, hfa, List.take_of_length_le (by rw [hll, List.length_append]; exact Nat.le_refl _)]
        cases ex with
        | true =>
          refine ⟨_, _, H.next, w_append_grow hlA hV (by omega) hb hL, (Ext.refl _ _).new _, .inr (Nat.le_refl _), fin H rfl⟩
        | false =>
          have c3 : Nat.ble X.length c = true := by simpa using h2
          have c4 : lenN cs (Nat.add o (Nat.mul c sz)) = true := (lenN_iff _ _).2 (h4 rfl)
          have c5 : Nat.beq e e = true := Nat.beq_refl e
          refine ⟨.slice (some (H.next, 0)) (X.length + Y.length) (X.length + Y.length) false, (H.put B none).new (.cells e (X.flatten ++ Y.flatten)), H.next, ?_, ((Ext.refl _ _).put (.inr (by simp)) _).new _, .inr (Nat.le_refl _), fin (H.put B none) rfl⟩
          simp only [w_append, hn, ob2_some, appendTo, c1, br_false, c2, br_true, hL, ob_some, c3, killTo, cellsTo, h1, c4, c5, AH.putTo_eq, openNew, newTo_none_eq, joinL_eq]
          rfl

/-! Writing. -/
theorem flatten_set {sz : Nat} {X : List (List AV)} (h : ∀ x ∈ X, x.length = sz) {j : Nat} (hj : j < X.length) {x : List AV} (hx : x.length = sz) (t : Nat) :
    (X.set j x).flatten[t]? = if t < j * sz then X.flatten[t]? else if t < j * sz + sz then x[t - j * sz]? else X.flatten[t]? := by
  have e : X = X.take j ++ X[j] :: X.drop (j + 1) := by rw [← List.drop_eq_getElem_cons hj, List.take_append_drop]
  have e2 : X.set j x = X.take j ++ x :: X.drop (j + 1) := List.set_eq_take_append_cons_drop.trans (if_pos hj)
  have hA : (X.take j).flatten.length = j * sz := by rw [flatten_len fun y hy => h y (List.mem_of_mem_take hy), List.length_take, Nat.min_eq_left (Nat.le_of_lt hj)]
  have hB := h X[j] (List.getElem_mem hj)
  have f1 : X.flatten = (X.take j).flatten ++ (X[j] ++ (X.drop (j + 1)).flatten) := by
    conv => lhs; rw [e]
    rw [List.flatten_append, List.flatten_cons]
  have f2 : (X.set j x).flatten = (X.take j).flatten ++ (x ++ (X.drop (j + 1)).flatten) := by rw [e2, List.flatten_append, List.flatten_cons]
  rw [f1, f2]
  by_cases c1 : t < j * sz
  · rw [if_pos c1, List.getElem?_append_left (by omega), List.getElem?_append_left (by omega)]
  · have g1 := List.getElem?_append_right (l₁ := (X.take j).flatten) (l₂ := x ++ (X.drop (j + 1)).flatten) (i := t) (by omega)
    have g2 := List.getElem?_append_right (l₁ := (X.take j).flatten) (l₂ := X[j] ++ (X.drop (j + 1)).flatten) (i := t) (by omega)
    rw [if_neg c1, g1, g2, hA]
    by_cases c2 : t < j * sz + sz
    · rw [if_pos c2, List.getElem?_append_left (by omega)]
    · have g3 := List.getElem?_append_right (l₁ := x) (l₂ := (X.drop (j + 1)).flatten) (i := t - j * sz) (by omega)
      have g4 := List.getElem?_append_right (l₁ := X[j]) (l₂ := (X.drop (j + 1)).flatten) (i := t - j * sz) (by omega)
      rw [if_neg c2, g3, g4, hx, hB]
theorem mem_set' {α : Type} {X : List α} {j : Nat} {x y : α} (h : y ∈ X.set j x) : y ∈ X ∨ y = x := List.mem_or_eq_of_mem_set h

/-- An element's place: where it is; what is read; what is written. -/
theorem Own.at {e : TypeId} {sz B : Nat} {s : AV} {X : List (List AV)} (h : Own H e sz B s X) {j : Nat} (hj : j < X.length) (k : IntKind) : ∃ p, (∀ G : AH, w_indexAddr (.sl sz) G s (.int k j) = some (.val (.ptr (some (B, p))) G)) ∧ B < H.next ∧
    (∀ i v, X[j][i]? = some v → cellOf (H.get B) (p + i) = some v) ∧
    (∀ x : List AV, x.length = sz → x.all AV.known = true → x.all AV.one = true → ∀ (n i : Nat) (v : AV), v.parts.length = n → v.parts ≠ [] → i + n ≤ sz → x = X[j].take i ++ (v.parts ++ X[j].drop (i + n)) →
      ∃ H', stN n H B (H.get B) (p + i) v = some (.skip H') ∧ Ext [B] H H' ∧ H'.next = H.next ∧ (∀ c, c ≠ B → H'.get c = H.get c) ∧ Own H' e sz B s (X.set j x)) := by
  obtain ⟨rfl, rfl⟩ | ⟨o, c, ex, cs, rfl, h1, h2, h3, h4, h5, h6⟩ := h.ex
  · cases hj
  · have hb : j * sz + sz ≤ X.length * sz := by
      have : (j + 1) * sz ≤ X.length * sz := Nat.mul_le_mul_right _ hj
      rw [Nat.succ_mul] at this; omega
    have hc := Nat.mul_le_mul_right sz h2
    have hxj := h.szs X[j] (List.getElem_mem hj)
    refine ⟨o + j * sz, fun G => w_idx_sl hj, h6, fun i v hv => ?_, fun x hx hk h1' n i v hn hne hin hxe => ?_⟩
    · have := h.sl.ex
      obtain ⟨q, _⟩ | ⟨o', c', ex', q, hsa, _⟩ := this
      · rcases q with q | ⟨_, _, q⟩ <;> cases q
      · simp only [AV.slice.injEq, Option.some.injEq, Prod.mk.injEq, true_and] at q
        obtain ⟨q1, _, _⟩ := q
        subst q1
        exact hsa.cell j _ (List.getElem?_eq_getElem hj) i v hv
    · have hpo : v.parts.all AV.one = true := by
        rw [List.all_eq_true]
        intro y hy
        exact List.all_eq_true.1 h1' y (by rw [hxe]; simp [hy])
      refine ⟨H.put B (some (.cells e (cs.take (o + j * sz + i) ++ (v.parts ++ cs.drop (o + j * sz + i + n))))), ?_, (Ext.refl _ _).put (.inr (by simp)) _, AH.next_put _ _ _, fun c hc => by rw [AH.get_put, if_neg hc], ⟨.inr ⟨o, c, ex, _, by rw [List.length_set], get_put_same _ _, by rw [List.length_set]; exact h2, ?_, fun q => ?_, ?_, by rw [AH.next_put]; exact h6⟩, fun y hy => ?_, fun y hy => ?_, fun y hy => ?_⟩⟩
      · rw [h1]; exact stN_cells _ _ _ _ _ ⟨hn, hpo, hne⟩ (by omega)
      · subst hn; rw [splice_length _ _ _ (by omega)]; exact h3
      · subst hn; rw [splice_length _ _ _ (by omega)]; exact h4 q
      · refine seg_eq (by rw [flatten_len (sz := sz), List.length_set]; intro y hy; rcases mem_set' hy with q | q; exact h.szs y q; rw [q]; exact hx) fun t ht => ?_
        rw [List.length_set] at ht
        have hX : X.flatten[t]? = cs[o + t]? := by rw [← h5, List.getElem?_take, if_pos ht, List.getElem?_drop]
        subst hn
        rw [splice_get _ _ _ _ (by omega), flatten_set h.szs hj hx]
        have gx : ∀ r, r < sz → X[j][r]? = X.flatten[j * sz + r]? := fun r hr => (flatten_at h.szs (List.getElem?_eq_getElem hj) hr).symm
        by_cases c1 : t < j * sz
        · rw [if_pos (by omega), if_pos c1, hX]
        · rw [if_neg c1]
          by_cases c2 : t < j * sz + sz
          · rw [if_pos c2, hxe]
            by_cases c3 : t < j * sz + i
            · rw [if_pos (by omega), List.getElem?_append_left (by rw [List.length_take]; omega), List.getElem?_take, if_pos (by omega), gx _ (by omega), show j * sz + (t - j * sz) = t by omega, hX]
            · rw [if_neg (by omega), List.getElem?_append_right (by rw [List.length_take]; omega), List.length_take, Nat.min_eq_left (by omega)]
              by_cases c4 : t < j * sz + i + v.parts.length
              · rw [if_pos (by omega), List.getElem?_append_left (by omega)]; congr 1; omega
              · rw [if_neg (by omega), List.getElem?_append_right (by omega), List.getElem?_drop, gx _ (by omega), ← hX]; congr 1; omega
          · rw [if_neg c2, if_neg (by omega), if_neg (by omega), hX]
      · rcases mem_set' hy with q | q
        · exact h.szs y q
        · rw [q]; exact hx
      · rcases mem_set' hy with q | q
        · exact h.known y q
        · rw [q]; exact hk
      · rcases mem_set' hy with q | q
        · exact h.one y q
        · rw [q]; exact h1'

/-- make. -/
theorem reps_flatten {sz : Nat} {z : List AV} (hz : z.length = sz) : ∀ n, reps n z = (List.replicate n z).flatten := by
  intro n
  unfold reps
  split
  · rename_i x
    induction n with
    | zero => rfl
    | succ n ih => rw [List.replicate_succ, List.flatten_cons, ← ih]; rfl
  · induction n with
    | zero => rfl
    | succ n ih =>
      rw [List.replicate_succ, List.flatten_cons, ← ih]
      exact joinL_eq _ _
theorem own_make {e : TypeId} {sz by_ : Nat} {z : List AV} (he : elT P e = some (sz, z)) (hb : byOf P e = some by_) (hs : 0 < sz) (hz : z.length = sz) (hk : z.all AV.known = true) (h1 : z.all AV.one = true) {n : Nat} (hn : by_ * n ≤ 281474976710656) (hn2 : n ≤ 4611686018427387904) (k k' : IntKind) :
    ∃ H', w_makeSlice P e H (.int k n) (.int k' n) none = some (.val (.slice (some (H.next, 0)) n n true) H') ∧ Ext [] H H' ∧ H'.next = H.next + 1 ∧ Own H' e sz H.next (.slice (some (H.next, 0)) n n true) (List.replicate n z) := by
  have hl : ∀ x ∈ List.replicate n z, x.length = sz := fun x hx => by rw [(List.mem_replicate.1 hx).2]; exact hz
  have hfl := flatten_len hl
  rw [List.length_replicate] at hfl
  have c1 : Nat.blt 0 sz = true := by rw [Nat.blt_eq]; exact hs
  have c2 : Nat.ble n n = true := by simp
  have c3 : Nat.ble (Nat.mul by_ n) 281474976710656 = true := by simpa using hn
  have c4 : Nat.ble n 4611686018427387904 = true := by simpa using hn2
  refine ⟨H.new (.cells e (List.replicate n z).flatten), ?_, (Ext.refl _ _).new _, rfl, ⟨.inr ⟨0, n, true, _, by rw [List.length_replicate], get_new_same _ _, by rw [List.length_replicate]; exact Nat.le_refl _, by omega, fun q => (by cases q), ?_, by rw [next_new]; omega⟩, hl, fun x hx => ?_, fun x hx => ?_⟩⟩
  · simp only [w_makeSlice, oMakeSlice, he, hb, val_mk, c1, c2, c3, c4, br_true, natZ_cast, ob_some, newSlice, newTo_none_eq, reps_flatten hz]
  · rw [List.length_replicate, List.drop_zero, List.take_of_length_le (by omega)]
  · rw [(List.mem_replicate.1 hx).2]; exact hk
  · rw [(List.mem_replicate.1 hx).2]; exact h1
open Go.ChangeShapes Go.WideShapes Go.Deep
/-- A row at an address of the world: its elements, read. -/
theorem slAt_row {W : World} {α : Type} (dec : α → List AV) (val : α → List Value) {G sz : Nat} {l : AV} {a : Addr} {len : Nat} (hspot : a.spot = none) (hlt : a.block < W.heap.size)
    (hl : ∃ t x, W.cell? ⟨0, 0, none⟩ = some (.iface t x))
    (hdl : ∀ a, (dec a).length = sz) (hvl : ∀ a, (val a).length = sz) (X : List α) (_hX : X.length = len) (hdv : ∀ a ∈ X, ∀ (i : Nat) (x : AV), (dec a)[i]? = some x → ∃ y, (val a)[i]? = some y ∧ absW G W.heap.size y = some x ∧ ∀ t z, y ≠ .iface t z)
    (hc : ∀ (i : Nat) (x : α), X[i]? = some x → W.cells? 0 (a.add (i * sz)) sz = some (val x)) : SlAt (AH.whole G W l) sz (idW G a.block) a.off (X.map dec) := by
  refine ⟨id_lt hlt, fun x hx => ?_, fun x hx => ?_, fun x hx => ?_, fun j x hx i y hy => ?_⟩
  · obtain ⟨z, _, rfl⟩ := List.mem_map.1 hx; exact hdl z
  · obtain ⟨z, hz, rfl⟩ := List.mem_map.1 hx
    rw [List.all_eq_true]
    intro y hy
    obtain ⟨i, hi, rfl⟩ := List.mem_iff_getElem.1 hy
    obtain ⟨w, _, h2, _⟩ := hdv z hz i _ (List.getElem?_eq_getElem hi)
    exact (rel_absW h2).2.1
  · obtain ⟨z, hz, rfl⟩ := List.mem_map.1 hx
    rw [List.all_eq_true]
    intro y hy
    obtain ⟨i, hi, rfl⟩ := List.mem_iff_getElem.1 hy
    obtain ⟨w, _, h2, _⟩ := hdv z hz i _ (List.getElem?_eq_getElem hi)
    exact (rel_absW h2).1
  · rw [List.getElem?_map] at hx
    obtain ⟨z, hz', rfl⟩ := Option.map_eq_some_iff.1 hx
    obtain ⟨w, h1, h2, h3⟩ := hdv z (List.mem_of_getElem? hz') i y hy
    have hi' : i < sz := by have := (List.getElem?_eq_some_iff.1 h1).1; rw [hvl] at this; exact this
    obtain ⟨_, _, hat⟩ := World.cells?_some (hc j z hz')
    have hcell := hat i hi'
    rw [add_none hspot, add_none (by rfl)] at hcell
    exact cellOf_whole h3 hl (hcell.trans h1) h2

/-- A slice within the world, of elements that have one cell each. -/
theorem in_cell {H : Type} {enc : TypeId × Value → H} {W : World} {G : Nat} {l : AV} {t e : TypeId} {k : IntKind} {n : Nat} {cs : List Value} {x : DataW H × List MemPlace}
    (ht : P.underlying t = some (.slice e)) (he : P.underlying e = some (.int k)) (hsz : P.cellsOf e = 1) (hl : ∃ t x, W.cell? ⟨0, 0, none⟩ = some (.iface t x))
    (h : DataW.trod enc P W 0 (fun _ => true) true n t cs = some x) :
    ∃ (v : Value) (b : Nat) (s : AV) (L : List { x : Int // (Lit.int k x).wf = true }), cs = [v] ∧ absW G W.heap.size v = some s ∧ b < (AH.whole G W l).next ∧ Sl (AH.whole G W l) 1 b s (L.map fun x => [AV.int k x.1]) ∧ L.length ≤ maxLen ∧ ∀ t z, v ≠ .iface t z := by
  rcases open_slice1 ht hsz h with ⟨rfl, -⟩ | ⟨a, len, cap, m, n, V, D, Pl, rfl, hb, hle, hm, hmm, hx, hi⟩
  · exact ⟨_, 0, .slice none 0 0 true, [], rfl, rfl, Nat.lt_of_lt_of_le (Nat.succ_pos _) (Nat.le_add_right _ _), ⟨.inl ⟨.inl rfl, rfl⟩⟩, Nat.zero_le _, fun t z => by simp⟩
  · have hmc : m = cap := by simpa using hmm
    by_cases hcap : cap = 0
    · subst hcap
      have hl0 : len = 0 := by omega
      subst hl0
      by_cases hok : a.spot = none ∧ a.block < W.heap.size
      · refine ⟨_, idW G a.block, .slice (some (idW G a.block, a.off)) 0 0 true, [], rfl, if_pos hok, id_lt hok.2, ⟨.inr ⟨a.off, 0, true, rfl, ⟨id_lt hok.2, by simp, by simp, by simp, fun j x hx => by simp at hx⟩, Nat.le_refl _⟩⟩, Nat.zero_le _, fun t z => by simp⟩
      · exact ⟨_, 0, .tail 0 0, [], rfl, (if_neg hok).trans (if_pos ⟨rfl, rfl⟩), Nat.lt_of_lt_of_le (Nat.succ_pos _) (Nat.le_add_right _ _), ⟨.inl ⟨.inr ⟨_, _, rfl⟩, rfl⟩⟩, Nat.zero_le _, fun t z => by simp⟩
    · have hc0 := (hi 0 (by omega)).1
      rw [show a.add 0 = a from if_pos rfl] at hc0
      have hok : a.spot = none ∧ a.block < W.heap.size := by
        unfold World.cell? at hc0
        split at hc0
        · rename_i hh
          refine ⟨?_, (Array.getElem?_eq_some_iff.1 hh).1⟩
          cases hs : a.spot with
          | none => rfl
          | some s => rw [hs] at hc0; simp at hc0
        · cases hc0
      have hex : ∀ i : Fin len, ∃ x : { x : Int // (Lit.int k x).wf = true }, W.cells? 0 (a.add (i.1 * 1)) 1 = some [.int k x.1] := by
        intro i
        obtain ⟨h1, h2⟩ := hi i.1 (by have := i.2; omega)
        obtain ⟨z, e0, _, hw⟩ := DataW.trod_int he h2
        refine ⟨⟨z, hw⟩, ?_⟩
        have e0 : V i.1 = .int k z := by simpa using e0
        rw [Nat.mul_one, ← e0]
        exact cells?_one (Nat.zero_le _) h1
      refine ⟨_, idW G a.block, .slice (some (idW G a.block, a.off)) len cap true, List.ofFn fun i => Classical.choose (hex i), rfl, if_pos hok, id_lt hok.2, ⟨.inr ⟨a.off, cap, true, ?_, ?_, ?_⟩⟩, ?_, fun t z => by simp⟩
      · rw [List.length_map, List.length_ofFn]
      · refine slAt_row (fun x : { x : Int // (Lit.int k x).wf = true } => [AV.int k x.1]) (fun x => [.int k x.1]) hok.1 hok.2 hl (fun _ => rfl) (fun _ => rfl) _ (List.length_ofFn (n := len)) (fun a _ i x hx => ?_) (fun i x hx => ?_)
        · match i, hx with
          | 0, hx => cases hx; exact ⟨_, rfl, rfl, fun t z => by simp⟩
        · rw [List.getElem?_ofFn] at hx
          split at hx
          · cases hx; exact Classical.choose_spec (hex ⟨i, by assumption⟩)
          · cases hx
      · rw [List.length_map, List.length_ofFn]; exact hle
      · rw [List.length_ofFn]; omega

/-- One of several slices of numbers: itself, its block, what is in it. -/
abbrev Vk (k : IntKind) := AV × Nat × List { x : Int // (Lit.int k x).wf = true }
/-- A slice of slices of numbers. -/
theorem in_rows {H : Type} {enc : TypeId × Value → H} {W : World} {G : Nat} {l : AV} {t e f : TypeId} {k : IntKind} {r : Reach} {b0 : Nat} {v : Value} {d : DataW H} {p : List MemPlace}
    (ht : P.underlying t = some (.slice e)) (hsz : P.cellsOf e = 1) (he : P.underlying e = some (.slice f)) (hf : P.underlying f = some (.int k)) (hf1 : P.cellsOf f = 1) (hl : ∃ t x, W.cell? ⟨0, 0, none⟩ = some (.iface t x))
    (hv : Value.okWide P W r b0 t v) (h : DataW.Trod enc P W 0 (fun _ => true) true t v d p) :
    ∃ (b : Nat) (s : AV) (L : List (Vk k)), Rel (rhoW G W.heap.size) s v ∧ b < (AH.whole G W l).next ∧ Sl (AH.whole G W l) 1 b s (L.map fun y => [y.1]) ∧ L.length ≤ maxLen ∧
      ∀ y ∈ L, y.1.one = true ∧ y.1.known = true ∧ y.2.1 < (AH.whole G W l).next ∧ Sl (AH.whole G W l) 1 y.2.1 y.1 (y.2.2.map fun x => [AV.int k x.1]) ∧ y.2.2.length ≤ maxLen := by
  obtain ⟨a0, len0, cap0, rfl⟩ := okWide_slice ht hv
  have hcell : (Value.slice a0 len0 cap0).cells.toList = [Value.slice a0 len0 cap0] := rfl
  obtain ⟨fuel, h⟩ := h
  rw [hcell] at h
  rcases open_slice1 ht hsz h with ⟨h1, -⟩ | ⟨a, len, cap, m, n, V, D, Pl, hcs, hb, hle, hm, hmm, hx, hi⟩
  · simp only [List.cons.injEq, Value.slice.injEq, and_true] at h1
    obtain ⟨rfl, rfl, rfl⟩ := h1
    exact ⟨0, .slice none 0 0 true, [], rfl, Nat.lt_of_lt_of_le (Nat.succ_pos _) (Nat.le_add_right _ _), ⟨.inl ⟨.inl rfl, rfl⟩⟩, Nat.zero_le _, by simp⟩
  · simp only [List.cons.injEq, Value.slice.injEq, and_true] at hcs
    obtain ⟨rfl, rfl, rfl⟩ := hcs
    have hok : W.has P r b0 a e cap0 := by
      unfold Value.okWide at hv
      rw [ht] at hv
      simp only [Cell.okWide, ht, Cell.ok] at hv
      exact hv.2.2
    obtain ⟨_, hspot, row, cells, hsh, _⟩ := hok
    have hlt : a.block < W.heap.size := by
      unfold World.shape? at hsh
      split at hsh
      · rename_i hh; exact (Array.getElem?_eq_some_iff.1 hh).1
      · cases hsh
    have hmc : m = cap0 := by simpa using hmm
    have hex : ∀ i : Fin len0, ∃ y : Vk k × Value, W.cells? 0 (a.add (i.1 * 1)) 1 = some [y.2] ∧ absW G W.heap.size y.2 = some y.1.1 ∧ (∀ t z, y.2 ≠ .iface t z) ∧ y.1.2.1 < (AH.whole G W l).next ∧
        Sl (AH.whole G W l) 1 y.1.2.1 y.1.1 (y.1.2.2.map fun x => [AV.int k x.1]) ∧ y.1.2.2.length ≤ maxLen := by
      intro i
      obtain ⟨h1, h2⟩ := hi i.1 (by have := i.2; omega)
      obtain ⟨v, b, s, L, e1, e2, e3, e4, e5, e6⟩ := in_cell (G := G) (l := l) he hf hf1 hl h2
      have e1 : V i.1 = v := by simpa using e1
      subst e1
      exact ⟨((s, b, L), V i.1), by rw [Nat.mul_one]; exact cells?_one (Nat.zero_le _) h1, e2, e6, e3, e4, e5⟩
    have hch := fun i => Classical.choose_spec (hex i)
    refine ⟨idW G a.block, .slice (some (idW G a.block, a.off)) len0 cap0 true, List.ofFn fun i => (Classical.choose (hex i)).1, ⟨_, rhoW_in hlt, ?_⟩, id_lt hlt, ⟨.inr ⟨a.off, cap0, true, ?_, ?_, ?_⟩⟩, ?_, fun y hy => ?_⟩
    · obtain ⟨B, o, s⟩ := a
      cases hspot
      simp
    · rw [List.length_map, List.length_ofFn]
    · have := slAt_row (W := W) (G := G) (l := l) (fun y : Vk k × Value => [y.1.1]) (fun y => [y.2]) hspot hlt hl (fun _ => rfl) (fun _ => rfl) (List.ofFn fun i => Classical.choose (hex i)) (List.length_ofFn (n := len0)) (fun a ha i x hx => ?_) (fun i x hx => ?_)
      · rw [List.map_ofFn] at this ⊢
        exact this
      · obtain ⟨i', hi'⟩ := List.mem_iff_getElem.1 ha
        obtain ⟨hi', rfl⟩ := hi'
        rw [List.getElem_ofFn] at hx ⊢
        match i, hx with
        | 0, hx => cases hx; exact ⟨_, rfl, (hch _).2.1, (hch _).2.2.1⟩
      · rw [List.getElem?_ofFn] at hx
        split at hx
        · cases hx; exact (hch ⟨i, by assumption⟩).1
        · cases hx
    · rw [List.length_map, List.length_ofFn]; exact hle
    · rw [List.length_ofFn]; omega
    · obtain ⟨i', hi', rfl⟩ := List.mem_iff_getElem.1 hy
      rw [List.getElem_ofFn]
      obtain ⟨_, q2, _, q4, q5, q6⟩ := hch ⟨i', by rw [List.length_ofFn] at hi'; exact hi'⟩
      obtain ⟨r1, r2, _⟩ := rel_absW q2
      exact ⟨r1, r2, q4, q5, q6⟩
end
end Go.Ab
end
