/- The evaluator at any input: what a run ends with, as a statement that is taken apart step by step. -/
import Derived.Test.YtoafnnphjbdedaaGreatDoorAbCa
namespace Go.Ab
variable {P : Program}
noncomputable section

def TE.set (a : TE) (d : Nat) (v : AV) : TE := fun i => br (Nat.beq i d) v (a i)
def TE.setO (a : TE) (d : Option Tmp) (v : AV) : TE := @Option.rec Tmp (fun _ => TE) a (fun d => TE.set a d v) d
theorem TE.set_eq (a : TE) (d : Nat) (v : AV) (i : Nat) : a.set d v i = if i = d then v else a i := by
  unfold TE.set
  rw [br_eq]
  simp only [Nat.beq_eq]

/-- The same temporaries; there is room for n. -/
structure TmEq (n : Nat) (tm : TM0) (a : TE) : Prop where
  get : ∀ i, a i = tm.get i
  room : ∀ i, i < n → tm.has i = true
theorem TmEq.setO {n : Nat} {tm : TM0} {a : TE} (h : TmEq n tm a) {d : Option Tmp} (hd : dstOk n d = true) (v : AV) : TmEq n (setO d v tm) (a.setO d v) := by
  cases d with
  | none => exact h
  | some d =>
    have hd : d < n := by simpa [dstOk] using hd
    refine ⟨fun i => ?_, fun i hi => by show (tm.set d v).has i = true; rw [TM0.has_set]; exact h.room i hi⟩
    show a.set d v i = (tm.set d v).get i
    rw [TE.set_eq, TM0.get_set _ _ _ (h.room d hd), h.get]

/-! What calls come to. -/
structure CW where
  call : FuncId → List AV → AH → (AV → AH → Prop) → Prop
  round : Nat → List AV → AH → (AV → AH → Prop) → Prop

/-- From some number of rounds on it is so. -/
def Evn (g : Nat → Option (AV × AH)) (K : AV → AH → Prop) : Prop := ∃ n v H', (∀ m, n ≤ m → g m = some (v, H')) ∧ K v H'
def WP (P : Program) (prim : PrimF) : CW := ⟨fun f args H K => Evn (fun m => (evBoth P prim m).1 f args H) K, fun l args H K => Evn (fun m => (evBoth P prim m).2 l args H) K⟩
theorem Evn.mono {g : Nat → Option (AV × AH)} {K K' : AV → AH → Prop} (h : Evn g K) (hk : ∀ v H, K v H → K' v H) : Evn g K' := by
  obtain ⟨n, v, H', h1, h2⟩ := h
  exact ⟨n, v, H', h1, hk _ _ h2⟩
theorem WP.mono {prim : PrimF} {f : FuncId} {args : List AV} {H : AH} {K K' : AV → AH → Prop} (h : (WP P prim).call f args H K) (hk : ∀ v H, K v H → K' v H) : (WP P prim).call f args H K' := Evn.mono h hk

def outP (C : CW) (H : AH) (out : Option Out) (K : AV → AH → Prop) : Prop :=
  @Option.rec Out (fun _ => Prop) False (fun o => @Out.rec (fun _ => Prop) (fun v H' => K v H') (fun H' => K undefA H') (fun f args => C.call f args H K) (fun l args => C.round l args H K) o) out

abbrev KE := TE → AH → Prop
abbrev KP := Ex → TE → AH → Prop

/-- Guarded: skipped, if the guard is down. -/
def guardP (g : Bool) (H : AH) (X : (AV → AH → Prop) → Prop) (K : AV → AH → Prop) : Prop := @Bool.rec (fun _ => Prop) (K undefA H) (X K) g
theorem guardP_eq (g : Bool) (H : AH) (X : (AV → AH → Prop) → Prop) (K : AV → AH → Prop) : guardP g H X K = if g then X K else K undefA H := by cases g <;> rfl
def guardE (ops : Array Oper) (g : Option (Nat × Bool)) : TE → Bool := match g with
  | none => fun _ => true
  | some (j, w) => match opDst ops j with
    | some d => fun a => boolIs w (a d)
    | none => fun _ => false
theorem guardE_eq (ops : Array Oper) (g : Option (Nat × Bool)) {a : TE} {tm : TM0} (h : ∀ i, a i = tm.get i) : guardE ops g a = (guardB ops g).val tm := by
  cases g with
  | none => rfl
  | some p =>
    obtain ⟨j, w⟩ := p
    unfold guardE guardB
    simp only
    cases opDst ops j with
    | none => rfl
    | some d => simp only [h, val_mk]

def opE (a : TE) (x : Operand) : AV := (opdBE x).val a
abbrev stepP (P : Program) (C : CW) (g : TE → Bool) (o : Oper) (at_ : Option Nat) (k : KE) : KE := fun a H =>
  guardP (g a) H (outP C H ((aopE P o.op).val a H at_)) fun v H' => k (a.setO o.dst v) H'
/-- A step as it is printed: what moves a value leaves no trace; what is not guarded is done. -/
abbrev plainP (P : Program) (C : CW) (dst : Option Tmp) (at_ : Option Nat) (op : Op) (k : KE) : KE := fun a H =>
  outP C H ((aopE P op).val a H at_) fun v H' => k (a.setO dst v) H'
abbrev stepO (P : Program) (C : CW) (ops : Array Oper) (o : Oper) (at_ : Option Nat) (k : KE) : KE := match o.guard with
  | some g => stepP P C (guardE ops (some g)) o at_ k
  | none => match o.op with
    | .move x => fun a H => @Bool.rec (fun _ => Prop) False (k (a.setO o.dst (opE a x)) H) (okOpd P x)
    | .assign x => fun a H => @Bool.rec (fun _ => Prop) False (k (a.setO o.dst (opE a x)) H) (okOpd P x)
    | op => plainP P C o.dst at_ op k

abbrev textP (P : Program) (C : CW) (ops : Array Oper) (l : List Oper) (k : KE) : KE :=
  @List.rec Oper (fun _ => KE) k (fun o _ ih => stepO P C ops o none ih) l

def reC (g : Bool) (out : Option Out) (d : AV) : Bool :=
  br g (@Option.rec Out (fun _ => Bool) false (fun o => @Out.rec (fun _ => Bool) (fun v _ => AV.beq v d) (fun _ => false) (fun _ _ => false) (fun _ _ => false) o) out) true
def ckP (c : Bool) (X : Prop) : Prop := @Bool.rec (fun _ => Prop) False X c
theorem ckP_eq (c : Bool) (X : Prop) : ckP c X = if c then X else False := by cases c <;> rfl
abbrev reP (P : Program) (g : TE → Bool) (op : Op) (d : Tmp) (k : KE) : KE := fun a H => ckP (reC (g a) ((aopE P op).val a H none) (a d)) (k a H)

abbrev insP (P : Program) (C : CW) (ops : Array Oper) (base : Nat) (l : List Ins) (k : KE) : KE :=
  @List.rec Ins (fun _ => KE) k (fun x _ ih => match x with
    | .go i => match ops[i]? with
      | some o => stepO P C ops o (br (isFloat o.op) (some (Nat.add base (rankF ops i))) none) ih
      | none => fun _ _ => False
    | .re i => match ops[i]? with
      | some o => match o.dst with
        | some d => reP P (guardE ops o.guard) o.op d ih
        | none => fun _ _ => False
      | none => fun _ _ => False) l

def AH.more (H : AH) (n : Nat) : AH := ⟨H.tr, Nat.add H.next n⟩

abbrev regP (P : Program) (C : CW) (ops : Array Oper) (draw : Bool) (k : KE) : KE := fun a H =>
  @Bool.rec (fun _ => Prop) (textP P C ops ops.toList k a H) (@Option.rec (List Ins) (fun _ => Prop) False (fun is => insP P C ops H.next is k a (H.more (rankF ops ops.size))) (sched P ops)) draw

abbrev exP (k : KE) (K : KP) : KP := fun e a H => @Ex.rec (fun _ => Prop) (k a H) (fun id => K (.exit id) a H) (K .ret a H) e
abbrev blockP (id : Nat) (K : KP) : KP := fun e a H => @Ex.rec (fun _ => Prop) (K .normal a H) (fun id' => @Bool.rec (fun _ => Prop) (K (.exit id') a H) (K .normal a H) (Nat.beq id' id)) (K .ret a H) e
def iterP {S : Type} (F : (S → AH → Prop) → S → AH → Prop) (n : Nat) : S → AH → Prop := @Nat.rec (fun _ => S → AH → Prop) (fun _ _ => False) (fun _ ih => F ih) n
def loopP {S : Type} (F : (S → AH → Prop) → S → AH → Prop) : S → AH → Prop := fun s H => ∃ n, iterP F n s H
def condP (c : AV) (x y : Prop) : Prop := match c with
  | .bool b => br b x y
  | _ => False

abbrev codeP (P : Program) (C : CW) (c : Code) : KP → KE :=
  @Code.rec (fun _ => KP → KE)
    (fun K => K .normal)
    (fun _ ops draw K => regP P C ops draw (K .normal))
    (fun _ _ ia ib K => ia (exP (ib K) K))
    (fun c _ _ ia ib K a H => condP (opE a c) (ia K a H) (ib K a H))
    (fun id _ ib K => ib (blockP id K))
    (fun _ ib K => loopP fun rec => ib (exP rec K))
    (fun _ _ _ _ _ _ _ _ _ => False)
    (fun id K => K (.exit id))
    (fun _ _ _ _ _ => False)
    (fun _ K => K .normal)
    (fun _ _ _ _ => False)
    (fun K => K .ret)
    (fun _ _ _ _ => False)
    c

/-! It is so. -/
section
variable {prim : PrimF}
abbrev cxOf (P : Program) (prim : PrimF) (m : Nat) (fn : FuncId) (ar : Option Nat) : Cx := ⟨(evBoth P prim m).1, (evBoth P prim m).2, m, fn, ar⟩

theorem outP_ok {H : AH} {out : Option Out} {K : AV → AH → Prop} (h : outP (WP P prim) H out K) (fn : FuncId) (ar : Option Nat) : ∃ n v H', (∀ m, n ≤ m → finO (cxOf P prim m fn ar) H out = some (v, H')) ∧ K v H' := by
  cases out with
  | none => exact h.elim
  | some o =>
    cases o with
    | val v H' => exact ⟨0, v, H', fun _ _ => rfl, h⟩
    | skip H' => exact ⟨0, _, H', fun _ _ => rfl, h⟩
    | enter f args =>
      obtain ⟨n, v, H', h1, h2⟩ := h
      exact ⟨n, v, H', fun m hm => h1 m hm, h2⟩
    | round l args =>
      obtain ⟨n, v, H', h1, h2⟩ := h
      exact ⟨n, v, H', fun m hm => h1 m hm, h2⟩

/-- Code of a region that comes to its end. -/
def RunsE (P : Program) (prim : PrimF) (fn : FuncId) (ar : Option Nat) (N : Nat) (f : RunF) (base : Nat) (tm : TM0) (H : AH) (k : KE) : Prop :=
  ∃ n tm' a' H', (∀ m, n ≤ m → f (cxOf P prim m fn ar) base tm H = some (tm', H')) ∧ TmEq N tm' a' ∧ k a' H'

theorem stepP_ok {fn : FuncId} {ar : Option Nat} {N : Nat} {ops : Array Oper} {o : Oper} {rank : Option Nat} {base : Nat} {k : KE} {f : RunF} {kk : KE} {a : TE} {tm : TM0} {H : AH} (ht : TmEq N tm a) (hd : dstOk N o.dst = true)
    (h : stepP P (WP P prim) (guardE ops o.guard) o (rank.map (base + ·)) kk a H) (ih : ∀ a tm H, TmEq N tm a → kk a H → RunsE P prim fn ar N f base tm H k) :
    RunsE P prim fn ar N (stepF (guardB ops o.guard).val (aop P o.op).val (putB o.dst).val rank f) base tm H k := by
  have hr : @Option.rec Nat (fun _ => Option Nat) none (fun r => some (Nat.add base r)) rank = rank.map (base + ·) := by cases rank <;> rfl
  unfold stepP at h
  rw [guardP_eq] at h
  unfold RunsE stepF
  rw [guardE_eq ops o.guard ht.get, aopE_val ht.get] at h
  simp only [hr, putB_eq, br_eq] at h ⊢
  by_cases hg : (guardB ops o.guard).val tm = true
  · simp only [hg, if_true] at h ⊢
    obtain ⟨n, v, H', h1, h2⟩ := outP_ok h fn ar
    obtain ⟨n2, tm', a', H2, h3, h4⟩ := ih _ _ _ (ht.setO hd v) h2
    refine ⟨max n n2, tm', a', H2, fun m hm => ?_, h4⟩
    rw [h1 m (by omega), ob2_some]
    exact h3 m (by omega)
  · simp only [hg, if_false, Bool.false_eq_true] at h ⊢
    exact ih _ _ _ (ht.setO hd undefA) h

theorem stepO_stepP {C : CW} {ops : Array Oper} {o : Oper} {at_ : Option Nat} {k : KE} {a : TE} {H : AH} (h : stepO P C ops o at_ k a H) : stepP P C (guardE ops o.guard) o at_ k a H := by
  obtain ⟨dst, op, type, pos, after, guard⟩ := o
  cases guard with
  | some g => exact h
  | none =>
    have mv : ∀ x : Operand, (op = .move x ∨ op = .assign x) → @Bool.rec (fun _ => Prop) False (k (a.setO dst (opE a x)) H) (okOpd P x) → stepP P C (guardE ops none) ⟨dst, op, type, pos, after, none⟩ at_ k a H := by
      intro x ho h
      cases hx : okOpd P x with
      | false => rw [hx] at h; exact h.elim
      | true =>
        rw [hx] at h
        have e : (aopE P op).val a H at_ = some (.val (opE a x) H) := by
          unfold aopE
          have h1 : allB (okOpd P) op.operands.toList = true := by
            rcases ho with rfl | rfl <;> simp [Op.operands, allB_eq, hx]
          rw [h1, br_true]
          rcases ho with rfl | rfl <;> simp [aopFE, b1E, oMoveE, opE]
        show guardP true H (outP C H ((aopE P op).val a H at_)) _
        rw [e]
        exact h
    cases op with
    | move x => exact mv x (.inl rfl) h
    | assign x => exact mv x (.inr rfl) h
    | _ => exact h

theorem textP_ok {fn : FuncId} {ar : Option Nat} {N : Nat} {ops : Array Oper} {base : Nat} {k : KE} : ∀ (l : List Oper) (a : TE) (tm : TM0) (H : AH), (∀ o ∈ l, dstOk N o.dst = true) → TmEq N tm a → textP P (WP P prim) ops l k a H → RunsE P prim fn ar N (textB P ops l).val base tm H k
  | [], a, tm, H, _, ht, h => ⟨0, tm, a, H, fun _ _ => rfl, ht, h⟩
  | o :: l, a, tm, H, hd, ht, h => by
    have e : textB P ops (o :: l) = bx (textB P ops l) fun k => stepB P ops none o k := rfl
    rw [e, bx_eq]
    simp only [stepB, bx_eq, val_mk]
    have h : stepO P (WP P prim) ops o none (textP P (WP P prim) ops l k) a H := h
    exact stepP_ok (rank := none) ht (hd o (by simp)) (stepO_stepP h) fun a tm H ht h => textP_ok l a tm H (fun o ho => hd o (by simp [ho])) ht h

theorem insP_ok {fn : FuncId} {ar : Option Nat} {N : Nat} {ops : Array Oper} {base : Nat} {k : KE} (hd : ∀ o ∈ ops.toList, dstOk N o.dst = true) : ∀ (l : List Ins) (a : TE) (tm : TM0) (H : AH), TmEq N tm a → insP P (WP P prim) ops base l k a H → RunsE P prim fn ar N (insB P ops l).val base tm H k
  | [], a, tm, H, ht, h => ⟨0, tm, a, H, fun _ _ => rfl, ht, h⟩
  | x :: l, a, tm, H, ht, h => by
    have e : ∀ y : Ins, insB P ops (y :: l) = bx (insB P ops l) fun k => (match y with
      | .go i => (match ops[i]? with
        | some o => stepB P ops (br (isFloat o.op) (some (rankF ops i)) none) o k
        | none => .mk failF)
      | .re i => (match ops[i]? with
        | some o => reB P ops o k
        | none => .mk failF)) := fun _ => rfl
    rw [e, bx_eq]
    cases x with
    | go i =>
      have h : (match ops[i]? with
        | some o => stepO P (WP P prim) ops o (br (isFloat o.op) (some (Nat.add base (rankF ops i))) none) (insP P (WP P prim) ops base l k)
        | none => fun _ _ => False) a H := h
      simp only
      cases ho : ops[i]? with
      | none => rw [ho] at h; exact h.elim
      | some o =>
        rw [ho] at h
        simp only [stepB, bx_eq, val_mk] at h ⊢
        refine stepP_ok (rank := br (isFloat o.op) (some (rankF ops i)) none) ht (hd o (by rw [Array.mem_toList_iff]; exact Array.mem_of_getElem? ho)) ?_ fun a tm H ht h => insP_ok hd l a tm H ht h
        have : (br (isFloat o.op) (some (rankF ops i)) none).map (base + ·) = br (isFloat o.op) (some (Nat.add base (rankF ops i))) none := by cases isFloat o.op <;> rfl
        rw [this]; exact stepO_stepP h
    | re i =>
      have h : (match ops[i]? with
        | some o => match o.dst with
          | some d => reP P (guardE ops o.guard) o.op d (insP P (WP P prim) ops base l k)
          | none => fun _ _ => False
        | none => fun _ _ => False) a H := h
      simp only
      cases ho : ops[i]? with
      | none => rw [ho] at h; exact h.elim
      | some o =>
        rw [ho] at h
        simp only at h ⊢
        unfold reB
        cases hdd : o.dst with
        | none => rw [hdd] at h; exact h.elim
        | some d =>
          rw [hdd] at h
          simp only [bx_eq, val_mk] at h ⊢
          unfold reP at h
          rw [ckP_eq] at h
          unfold reC at h
          rw [guardE_eq ops o.guard ht.get, aopE_val ht.get, ht.get d] at h
          unfold RunsE reF
          simp only [br_eq] at h ⊢
          by_cases hg : (guardB ops o.guard).val tm = true
          · simp only [hg, if_true] at h ⊢
            cases hout : (aop P o.op).val tm H none with
            | none => rw [hout] at h; exact h.elim
            | some out =>
              rw [hout] at h
              cases out with
              | val v H' =>
                simp only at h
                by_cases hb : AV.beq v (tm.get d) = true
                · simp only [hb, if_true] at h
                  obtain ⟨n, tm', a', H2, h3, h4⟩ := insP_ok (fn := fn) (ar := ar) hd l a tm H ht h
                  refine ⟨n, tm', a', H2, fun m hm => ?_, h4⟩
                  simp only [ob_some, hb, if_true]
                  exact h3 m hm
                · simp only [hb] at h
                  exact h.elim
              | _ => exact h.elim
          · simp only [hg, if_false, Bool.false_eq_true] at h ⊢
            exact insP_ok hd l a tm H ht h

theorem regP_ok {fn : FuncId} {ar : Option Nat} {N : Nat} {ops : Array Oper} {draw : Bool} {k : KE} {a : TE} {tm : TM0} {H : AH} (hd : ∀ o ∈ ops.toList, dstOk N o.dst = true) (ht : TmEq N tm a) (h : regP P (WP P prim) ops draw k a H) :
    ∃ n tm' a' H', (∀ m, n ≤ m → (regB P ops draw).val (cxOf P prim m fn ar) tm H = some (tm', H')) ∧ TmEq N tm' a' ∧ k a' H' := by
  unfold regP at h
  unfold regB
  cases draw with
  | true =>
    rw [br_true]
    have h : @Option.rec (List Ins) (fun _ => Prop) False (fun is => insP P (WP P prim) ops H.next is k a (H.more (rankF ops ops.size))) (sched P ops) := h
    cases hs : sched P ops with
    | none => rw [hs] at h; exact h.elim
    | some is =>
      rw [hs] at h
      simp only [bx_eq, val_mk]
      exact insP_ok hd is a tm _ ht h
  | false =>
    rw [br_false]
    have h : textP P (WP P prim) ops ops.toList k a H := h
    simp only [bx_eq, val_mk]
    exact textP_ok ops.toList a tm H hd ht h

/-- Code that comes to its end. -/
def RunsC (P : Program) (prim : PrimF) (fn : FuncId) (ar : Option Nat) (N : Nat) (c : Code) (tm : TM0) (H : AH) (K : KP) : Prop :=
  ∃ n e tm' a' H', (∀ m, n ≤ m → ∀ mk, (codeB P c).val (cxOf P prim m fn ar) tm H mk = .ok e tm' H' mk) ∧ TmEq N tm' a' ∧ K e a' H'

theorem codeP_ok (fn : FuncId) (ar : Option Nat) (N : Nat) : ∀ (c : Code) (K : KP) (a : TE) (tm : TM0) (H : AH), codeOk P N c = true → TmEq N tm a → codeP P (WP P prim) c K a H → RunsC P prim fn ar N c tm H K
  | .skip, K, a, tm, H, _, ht, h => ⟨0, .normal, tm, a, H, fun _ _ _ => rfl, ht, h⟩
  | .region id ops draw, K, a, tm, H, ho, ht, h => by
    have h : regP P (WP P prim) ops draw (K .normal) a H := h
    simp only [codeOk, allB_eq, List.all_eq_true] at ho
    obtain ⟨n, tm', a', H', h1, h2⟩ := regP_ok (fn := fn) (ar := ar) ho ht h
    refine ⟨n, .normal, tm', a', H', fun m hm mk => ?_, h2⟩
    have e : codeB P (.region id ops draw) = bx (regB P ops draw) fun f => .mk fun cx tm h mk =>
      @Option.rec (TM0 × AH) (fun _ => Rs) .fail (fun p => @Prod.rec TM0 AH (fun _ => Rs) (fun tm' h' => .ok .normal tm' h' mk) p) (f cx tm h) := rfl
    rw [e, bx_eq, val_mk, h1 m hm]
  | .seq x y, K, a, tm, H, ho, ht, h => by
    have h : codeP P (WP P prim) x (exP (codeP P (WP P prim) y K) K) a H := h
    simp only [codeOk, Bool.and_eq_true] at ho
    obtain ⟨n, e, tm', a', H', h1, ht', h2⟩ := codeP_ok fn ar N x _ a tm H ho.1 ht h
    have e0 : codeB P (.seq x y) = bx (codeB P x) fun a => bx (codeB P y) fun b => .mk fun cx tm h mk => (a cx tm h mk).next (b cx) := rfl
    cases e with
    | normal =>
      obtain ⟨n2, e2, tm2, a2, H2, h3, h4⟩ := codeP_ok fn ar N y _ a' tm' H' ho.2 ht' h2
      refine ⟨max n n2, e2, tm2, a2, H2, fun m hm mk => ?_, h4⟩
      rw [e0, bx_eq, bx_eq, val_mk, h1 m (by omega)]
      exact h3 m (by omega) mk
    | exit id =>
      refine ⟨n, .exit id, tm', a', H', fun m hm mk => ?_, ht', h2⟩
      rw [e0, bx_eq, bx_eq, val_mk, h1 m hm]; rfl
    | ret =>
      refine ⟨n, .ret, tm', a', H', fun m hm mk => ?_, ht', h2⟩
      rw [e0, bx_eq, bx_eq, val_mk, h1 m hm]; rfl
  | .cond c x y, K, a, tm, H, ho, ht, h => by
    have h : condP (opE a c) (codeP P (WP P prim) x K a H) (codeP P (WP P prim) y K a H) := h
    have e0 : codeB P (.cond c x y) = bx (opdB c) fun c => bx (codeB P x) fun a => bx (codeB P y) fun b => .mk fun cx tm h mk => condOf (c tm) (a cx tm h mk) (b cx tm h mk) := rfl
    simp only [codeOk, Bool.and_eq_true] at ho
    unfold opE at h
    rw [opdE_val ht.get] at h
    unfold condP at h
    split at h
    · rename_i b hb
      cases b with
      | true =>
        obtain ⟨n, e, tm', a', H', h1, h2⟩ := codeP_ok fn ar N x _ a tm H ho.2.1 ht h
        refine ⟨n, e, tm', a', H', fun m hm mk => ?_, h2⟩
        rw [e0, bx_eq, bx_eq, bx_eq, val_mk, hb]
        exact h1 m hm mk
      | false =>
        obtain ⟨n, e, tm', a', H', h1, h2⟩ := codeP_ok fn ar N y _ a tm H ho.2.2 ht h
        refine ⟨n, e, tm', a', H', fun m hm mk => ?_, h2⟩
        rw [e0, bx_eq, bx_eq, bx_eq, val_mk, hb]
        exact h1 m hm mk
    · exact h.elim
  | .block id x, K, a, tm, H, ho, ht, h => by
    have h : codeP P (WP P prim) x (blockP id K) a H := h
    simp only [codeOk] at ho
    obtain ⟨n, e, tm', a', H', h1, ht', h2⟩ := codeP_ok fn ar N x _ a tm H ho ht h
    have e0 : codeB P (.block id x) = bx (codeB P x) fun b => .mk fun cx tm h mk => blockOf id (b cx tm h mk) := rfl
    cases e with
    | normal =>
      refine ⟨n, .normal, tm', a', H', fun m hm mk => ?_, ht', h2⟩
      rw [e0, bx_eq, val_mk, h1 m hm]; rfl
    | exit id' =>
      have h2 : @Bool.rec (fun _ => Prop) (K (.exit id') a' H') (K .normal a' H') (Nat.beq id' id) := h2
      by_cases hb : Nat.beq id' id = true
      · rw [hb] at h2
        refine ⟨n, .normal, tm', a', H', fun m hm mk => ?_, ht', h2⟩
        rw [e0, bx_eq, val_mk, h1 m hm]
        show br (Nat.beq id' id) _ _ = _
        rw [hb]; rfl
      · have hb : Nat.beq id' id = false := Bool.eq_false_iff.2 hb
        rw [hb] at h2
        refine ⟨n, .exit id', tm', a', H', fun m hm mk => ?_, ht', h2⟩
        rw [e0, bx_eq, val_mk, h1 m hm]
        show br (Nat.beq id' id) _ _ = _
        rw [hb]; rfl
    | ret =>
      refine ⟨n, .ret, tm', a', H', fun m hm mk => ?_, ht', h2⟩
      rw [e0, bx_eq, val_mk, h1 m hm]; rfl
  | .loop x, K, a, tm, H, ho, ht, h => by
    obtain ⟨k, h⟩ := h
    simp only [codeOk] at ho
    have main : ∀ (k : Nat) (a : TE) (tm : TM0) (H : AH), TmEq N tm a → iterP (fun rec => codeP P (WP P prim) x (exP rec K)) k a H →
        ∃ n e tm' a' H', (∀ m, n ≤ m → ∀ k', k ≤ k' → ∀ mk, loopN ((codeB P x).val (cxOf P prim m fn ar)) k' tm H mk = .ok e tm' H' mk) ∧ TmEq N tm' a' ∧ K e a' H' := by
      intro k
      induction k with
      | zero => intro a tm H _ h; exact h.elim
      | succ k ih =>
        intro a tm H ht h
        have h : codeP P (WP P prim) x (exP (iterP (fun rec => codeP P (WP P prim) x (exP rec K)) k) K) a H := h
        obtain ⟨n, e, tm', a', H', h1, ht', h2⟩ := codeP_ok fn ar N x _ a tm H ho ht h
        have step : ∀ m k' mk, k + 1 ≤ k' → loopN ((codeB P x).val (cxOf P prim m fn ar)) k' tm H mk = ((codeB P x).val (cxOf P prim m fn ar) tm H mk).next (loopN ((codeB P x).val (cxOf P prim m fn ar)) (k' - 1)) := by
          intro m k' mk hk
          cases k' with
          | zero => omega
          | succ k' => rfl
        cases e with
        | normal =>
          obtain ⟨n2, e2, tm2, a2, H2, h3, h4⟩ := ih a' tm' H' ht' h2
          refine ⟨max n n2, e2, tm2, a2, H2, fun m hm k' hk mk => ?_, h4⟩
          rw [step m k' mk hk, h1 m (by omega) mk]
          exact h3 m (by omega) (k' - 1) (by omega) mk
        | exit id =>
          refine ⟨n, .exit id, tm', a', H', fun m hm k' hk mk => ?_, ht', h2⟩
          rw [step m k' mk hk, h1 m hm mk]; rfl
        | ret =>
          refine ⟨n, .ret, tm', a', H', fun m hm k' hk mk => ?_, ht', h2⟩
          rw [step m k' mk hk, h1 m hm mk]; rfl
    obtain ⟨n, e, tm', a', H', h1, h2⟩ := main k a tm H ht h
    have e0 : codeB P (.loop x) = bx (codeB P x) fun b => .mk fun cx tm h mk => loopN (b cx) cx.k tm h mk := rfl
    refine ⟨max n k, e, tm', a', H', fun m hm mk => ?_, h2⟩
    rw [e0, bx_eq, val_mk]
    exact h1 m (by omega) m (by omega) mk
  | .rangeFunc _ _ _ _, K, a, tm, H, _, _, h => (h : False).elim
  | .exit id, K, a, tm, H, _, ht, h => ⟨0, .exit id, tm, a, H, fun _ _ _ => rfl, ht, h⟩
  | .scope _, K, a, tm, H, _, _, h => (h : False).elim
  | .label _, K, a, tm, H, _, ht, h => ⟨0, .normal, tm, a, H, fun _ _ _ => rfl, ht, h⟩
  | .goto _, K, a, tm, H, _, _, h => (h : False).elim
  | .ret, K, a, tm, H, _, ht, h => ⟨0, .ret, tm, a, H, fun _ _ _ => rfl, ht, h⟩
  | .refuse _, K, a, tm, H, _, _, h => (h : False).elim
end

/-! Functions. -/
def argE (l : List AV) : TE := fun i => @Option.rec AV (fun _ => AV) undefA (fun v => v) (nthO l i)
def resT (v : AV) (r : Option (List AV)) : Option (List AV) := ob r fun l => some (v :: l)
def resR (part : Option (List AV → Nat → Option AV)) (H : AH) (v : AV) (r : Option (List AV)) : Option (List AV) :=
  ob part fun part => onPtr none (fun b o => ob (ob (cellsTo none H b fun _ cs => part cs o) clearA) fun v => ob r fun l => some (v :: l)) v
def resE (P : Program) (rs : List ResultVar) (a : TE) (H : AH) : Option (List AV) :=
  @List.rec ResultVar (fun _ => Option (List AV)) (some []) (fun r _ ih => match r with
    | .tmp t => resT (a t) ih
    | .cell c t => resR (partF (aggT P t)) H (a c) ih) rs
theorem resE_eq {a : TE} {tm : TM0} (h : ∀ i, a i = tm.get i) (H : AH) : ∀ rs : List ResultVar, resE P rs a H = (resB P rs).val tm H
  | [] => rfl
  | .tmp t :: rs => by
    have e1 : resB P (.tmp t :: rs) = bx (resB P rs) fun r => .mk fun tm H => ob (r tm H) fun l => some (tm.get t :: l) := rfl
    rw [e1, bx_eq, val_mk, ← resE_eq h H rs, ← h]
    rfl
  | .cell c t :: rs => by
    have e1 : resB P (.cell c t :: rs) = bx (resB P rs) fun r => (match partF (aggT P t) with
      | none => .mk fun _ _ => none
      | some part => .mk fun tm H => onPtr none (fun b o => ob (ob (cellsTo none H b fun _ cs => part cs o) clearA) fun v => ob (r tm H) fun l => some (v :: l)) (tm.get c)) := rfl
    have e2 : resE P (.cell c t :: rs) a H = resR (partF (aggT P t)) H (a c) (resE P rs a H) := rfl
    rw [e1, e2, bx_eq, resE_eq h H rs]
    unfold resR
    cases partF (aggT P t) <;> simp only [val_mk, ob_some, ob_none, h]
def endP (r : Option (List AV)) (K : AV → AH → Prop) (H : AH) : Prop := @Option.rec (List AV) (fun _ => Prop) False (fun l => K (tupA l) H) r
abbrev finP (P : Program) (rs : List ResultVar) (K : AV → AH → Prop) : KP := fun e a H =>
  @Ex.rec (fun _ => Prop) (endP (resE P rs a H) K H) (fun _ => False) (endP (resE P rs a H) K H) e

def funP (P : Program) (C : CW) (f : FuncId) (args : List AV) (H : AH) (K : AV → AH → Prop) : Prop := match P.funcs[f]? with
  | none => False
  | some fn => match fn.body with
    | none => False
    | some c => br (codeOk P fn.ntmps c) (br (Nat.ble args.length fn.ntmps) (codeP P C c (finP P fn.results.toList K) (argE args) H) False) False

theorem start_eq {n : Nat} {args : List AV} (hn : args.length ≤ n) : TmEq n (putAll args 0 (TM0.full (depthOf (n + 1) n))) (argE args) := by
  obtain ⟨h1, h2⟩ := putAll_get args 0 (TM0.full (depthOf (n + 1) n)) (fun j hj => full_has _ _ _ (by omega) (by omega))
  refine ⟨fun i => ?_, fun i hi => by rw [h1]; exact full_has _ _ _ (by omega) hi⟩
  rw [h2, full_get]
  unfold argE
  rw [nthO_eq]
  by_cases h : i < args.length
  · rw [if_pos ⟨Nat.zero_le _, by omega⟩, List.getElem?_eq_getElem h]; simp [List.getD_eq_getElem?_getD, List.getElem?_eq_getElem h]
  · rw [if_neg (by omega), List.getElem?_eq_none (by omega)]

theorem funP_ok {prim : PrimF} {f : FuncId} {args : List AV} {H : AH} {K : AV → AH → Prop} (hp : prim f = none) (hb : hasBody P f = true) (h : funP P (WP P prim) f args H K) : (WP P prim).call f args H K := by
  unfold funP at h
  split at h
  · exact h.elim
  · rename_i fn hf
    split at h
    · exact h.elim
    · rename_i c hc
      rw [br_eq] at h
      split at h
      · rename_i hok
        rw [br_eq] at h
        split at h
        · rename_i hle
          have hle' : args.length ≤ fn.ntmps := by simpa using hle
          obtain ⟨n, e, tm', a', H', h1, ht, h2⟩ := codeP_ok f none fn.ntmps c _ _ _ H hok (start_eq hle') h
          have res : ∃ l, (resB P fn.results.toList).val tm' H' = some l ∧ K (tupA l) H' ∧ ∀ id, e ≠ .exit id := by
            cases e with
            | exit id => exact h2.elim
            | normal =>
              have h2 : endP (resE P fn.results.toList a' H') K H' := h2
              rw [resE_eq ht.get] at h2
              unfold endP at h2
              cases hr : (resB P fn.results.toList).val tm' H' with
              | none => rw [hr] at h2; exact h2.elim
              | some l => rw [hr] at h2; exact ⟨l, rfl, h2, by simp⟩
            | ret =>
              have h2 : endP (resE P fn.results.toList a' H') K H' := h2
              rw [resE_eq ht.get] at h2
              unfold endP at h2
              cases hr : (resB P fn.results.toList).val tm' H' with
              | none => rw [hr] at h2; exact h2.elim
              | some l => rw [hr] at h2; exact ⟨l, rfl, h2, by simp⟩
          obtain ⟨l, hl, hk, hne⟩ := res
          refine ⟨n + 1, tupA l, H', fun m hm => ?_, hk⟩
          obtain ⟨m, rfl⟩ : ∃ k, m = k + 1 := ⟨m - 1, by omega⟩
          show callStep P prim (evBoth P prim m).1 (evBoth P prim m).2 m f args H = _
          unfold callStep
          rw [hp]
          show bx (funB P f) (fun g => g (evBoth P prim m).1 (evBoth P prim m).2 m args H) = _
          unfold funB
          rw [hb, br_true, hf]
          simp only [hc, hok, br_true, bx_eq, val_mk, hle]
          rw [h1 m (by omega) []]
          cases e with
          | exit id => exact absurd rfl (hne id)
          | normal => simp [leaveA, closeMarks, hl]
          | ret => simp [leaveA, closeMarks, hl]
        · exact h.elim
      · exact h.elim

/-! Loops. -/
theorem loopP_iso {S : Type} {F : KE → KE} (π : TE → S) (F' : (S → AH → Prop) → S → AH → Prop) (h : ∀ (rec : S → AH → Prop) (a : TE) (H : AH), F (fun a H => rec (π a) H) a H = F' rec (π a) H) (a : TE) (H : AH) :
    loopP F a H = loopP F' (π a) H := by
  have key : ∀ n, iterP F n = fun a H => iterP F' n (π a) H := by
    intro n
    induction n with
    | zero => rfl
    | succ n ih =>
      funext a H
      show F (iterP F n) a H = F' (iterP F' n) (π a) H
      rw [ih]
      exact h _ a H
  unfold loopP
  simp only [key]

/-- A loop by what holds at its head and what every round lowers. -/
theorem loopP_rule {S : Type} {F : (S → AH → Prop) → S → AH → Prop} (I : S → AH → Prop) (μ : S → AH → Nat)
    (step : ∀ s H, I s H → ∀ rec : S → AH → Prop, (∀ s' H', I s' H' → μ s' H' < μ s H → rec s' H') → F rec s H) {s : S} {H : AH} (h : I s H) : loopP F s H := by
  have key : ∀ n s H, μ s H < n → I s H → iterP F n s H := by
    intro n
    induction n with
    | zero => intro s H hn; omega
    | succ n ih =>
      intro s H hn hI
      exact step s H hI (iterP F n) fun s' H' h1 h2 => ih s' H' (by omega) h1
  exact ⟨_, key (μ s H + 1) s H (Nat.lt_succ_self _) h⟩

end
end Go.Ab
