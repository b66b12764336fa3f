/- The abstract evaluator: regions, code, calls. -/
import Derived.Test.YtoafnnphjbdedaaGreatDoorAbA
namespace Go.Ab
noncomputable section

mutual
def AV.beq : AV → AV → Bool
  | .bool a, .bool b => a == b
  | .int k a, .int k' b => and (kEq k k') (eqZ a b)
  | .str a, .str b => strEq a b
  | .ptr none, .ptr none => true
  | .ptr (some (a, o)), .ptr (some (b, p)) => and (Nat.beq a b) (Nat.beq o p)
  | .slice none n c x, .slice none m d y => and (Nat.beq n m) (and (Nat.beq c d) (x == y))
  | .slice (some (a, o)) n c x, .slice (some (b, p)) m d y => and (Nat.beq a b) (and (Nat.beq o p) (and (Nat.beq n m) (and (Nat.beq c d) (x == y))))
  | .tail a o, .tail b p => and (Nat.beq a b) (Nat.beq o p)
  | .map none, .map none => true
  | .map (some a), .map (some b) => Nat.beq a b
  | .yld a, .yld b => Nat.beq a b
  | .nilFn, .nilFn => true
  | .iface t v, .iface u w => and (Nat.beq t u) (v.beq w)
  | .nilIface, .nilIface => true
  | .agg a, .agg b => AV.beqL a b
  | .tup a, .tup b => AV.beqL a b
  | _, _ => false
  termination_by structural x => x
def AV.beqL : List AV → List AV → Bool
  | [], [] => true
  | a :: x, b :: y => and (a.beq b) (AV.beqL x y)
  | _, _ => false
  termination_by structural x => x
end

/-! What a region's operations are. -/

def opAt (ops : Array Oper) (i : Nat) : Op := match ops[i]? with
  | some o => o.op
  | none => .ready 0
def opDst (ops : Array Oper) (i : Nat) : Option Tmp := match ops[i]? with
  | some o => o.dst
  | none => none

def isFloat : Op → Bool
  | .alloc _ | .box .. | .buildSlice .. | .makeSlice .. | .makeMap .. => true
  | _ => false

/-- Neither the heap is read nor written. -/
def isPure : Op → Bool
  | .move _ | .assign _ | .pick .. | .build .. | .nilCheck _ | .binOp .. | .unOp .. | .makeInterface .. | .makeFunc .. | .slice .. | .fieldAddr .. | .field ..
  | .indexAddr .. | .index .. | .typeAssert .. | .extract .. => true
  | .call { callee := .builtin .min, .. } | .call { callee := .builtin .max, .. } | .call { callee := .builtin .cap, .. } => true
  | _ => false

section
variable (P : Program)

/-- The heap is read alone. -/
def isLook : Op → Bool
  | .load .. | .lookup .. | .call { callee := .builtin .len, .. } => true
  | .convert s d _ => match ckOf P s d with
    | some (.int _) | some .text | some .str => true
    | _ => false
  | _ => false

def isChain (o : Op) : Bool := and (not (isFloat o)) (and (not (isPure o)) (not (isLook P o)))

inductive Ins where
  | go (i : Nat)
  | re (i : Nat)

structure Sched where
  done : Nat        -- the bits of those that are done
  out : List Ins    -- the last first
  last : Option Nat -- the chain's last

/-- All that may go now (light), in the order of the text. -/
def eager (ops : Array Oper) (bf : Array Nat) : Nat → Nat → Sched → Sched
  | 0, _, s => s
  | n + 1, i, s =>
    let o := opAt ops i
    eager ops bf n (i + 1) <|
      if !Nat.testBit s.done i && !isFloat o && !isChain P o && Nat.beq (Nat.land (bf.getD i 0) s.done) (bf.getD i 0) then { s with done := Nat.lor s.done (2 ^ i), out := .go i :: s.out } else s

/-- What x needs. -/
def needs (bf : Array Nat) (x : Nat) : Nat → Nat → Sched → Sched
  | 0, _, s => s
  | n + 1, i, s =>
    needs bf x n (i + 1) <|
      if !Nat.testBit s.done i && Nat.testBit (bf.getD x 0) i then { s with done := Nat.lor s.done (2 ^ i), out := .go i :: s.out } else s

def rechecks (ops : Array Oper) (bf : Array Nat) (x : Nat) : Nat → Nat → Sched → Sched
  | 0, _, s => s
  | n + 1, i, s =>
    rechecks ops bf x n (i + 1) <|
      if Nat.testBit s.done i && isLook P (opAt ops i) && !Nat.testBit (bf.getD x 0) i then { s with out := .re i :: s.out } else s

def chainStep (ops : Array Oper) (bf : Array Nat) (x : Nat) (s : Sched) : Sched :=
  let n := ops.size
  let s1 := eager P ops bf n 0 (needs bf x n 0 (eager P ops bf n 0 s))
  rechecks P ops bf x n 0 { done := Nat.lor s1.done (2 ^ x), out := .go x :: s1.out, last := some x }

def chainGo (ops : Array Oper) (bf : Array Nat) : List Nat → Sched → Option Sched
  | [], s => some s
  | x :: xs, s =>
    if (match s.last with | some y => Nat.testBit (bf.getD x 0) y | none => true) then chainGo ops bf xs (chainStep P ops bf x s) else none

def rest : Nat → Nat → Sched → Sched
  | 0, _, s => s
  | n + 1, i, s => rest n (i + 1) (if Nat.testBit s.done i then s else { s with done := Nat.lor s.done (2 ^ i), out := .go i :: s.out })

def sched (ops : Array Oper) : Option (List Ins) :=
  let bf := Region.before ops
  match chainGo P ops bf ((List.range ops.size).filter fun i => isChain P (opAt ops i)) { done := 0, out := [], last := none } with
  | none => none
  | some s => some (rest ops.size 0 (eager P ops bf ops.size 0 s)).out.reverse
end

/-! Running. -/

abbrev CallF := FuncId → List AV → AH → Option (AV × AH)
abbrev RoundF := Nat → List AV → AH → Option (AV × AH)

structure Cx where
  call : CallF
  round : RoundF
  k : Nat
  fn : FuncId
  around : Option Nat

def finO (cx : Cx) (H : AH) (out : Option Out) : Option (AV × AH) :=
  @Option.rec Out (fun _ => Option (AV × AH)) none
    (fun o => @Out.rec (fun _ => Option (AV × AH)) (fun v H' => some (v, H')) (fun H' => some (undefA, H')) (fun f args => cx.call f args H) (fun l args => cx.round l args H) o) out

abbrev RunF := Cx → Nat → TM0 → AH → Option (TM0 × AH)

abbrev PutF := AV → TM0 → (TM0 → Option (TM0 × AH)) → Option (TM0 × AH)

def putB : Option Tmp → Bx PutF
  | none => .mk fun _ tm k => k tm
  | some d => .mk fun v tm k => forceV v fun v => tm.setK d v k

def boolIs (w : Bool) : AV → Bool
  | .bool b => b == w
  | _ => false

def guardB (ops : Array Oper) : Option (Nat × Bool) → Bx (TM0 → Bool)
  | none => .mk fun _ => true
  | some (j, w) => match opDst ops j with
    | some d => .mk fun tm => boolIs w (tm.get d)
    | none => .mk fun _ => false

def stepF (g : TM0 → Bool) (op : OpF) (put : PutF) (rank : Option Nat) (k : RunF) : RunF := fun cx base tm H =>
  br (g tm) (ob2 (finO cx H (op tm H (@Option.rec Nat (fun _ => Option Nat) none (fun r => some (Nat.add base r)) rank))) fun v H' => put v tm fun tm' => k cx base tm' H')
    (put undefA tm fun tm' => k cx base tm' H)

def stepB (P : Program) (ops : Array Oper) (rank : Option Nat) (o : Oper) (k : RunF) : Bx RunF :=
  bx (guardB ops o.guard) fun g => bx (aop P o.op) fun op => bx (putB o.dst) fun put => .mk (stepF g op put rank k)

def stopF : RunF := fun _ _ tm H => some (tm, H)
def failF : RunF := fun _ _ _ _ => none

def textB (P : Program) (ops : Array Oper) (l : List Oper) : Bx RunF :=
  @List.rec Oper (fun _ => Bx RunF) (.mk stopF) (fun o _ ih => bx ih fun k => stepB P ops none o k) l

def rankF (ops : Array Oper) (n : Nat) : Nat := @Nat.rec (fun _ => Nat) 0 (fun i r => br (isFloat (opAt ops i)) (Nat.succ r) r) n

def reF (g : TM0 → Bool) (op : OpF) (d : Tmp) (k : RunF) : RunF := fun cx base tm H =>
  br (g tm) (ob (op tm H none) fun out => match out with
    | .val v _ => br (AV.beq v (tm.get d)) (k cx base tm H) none
    | _ => none)
  (k cx base tm H)

def reB (P : Program) (ops : Array Oper) (o : Oper) (k : RunF) : Bx RunF := match o.dst with
  | none => .mk failF
  | some d => bx (guardB ops o.guard) fun g => bx (aop P o.op) fun op => .mk (reF g op d k)

def insB (P : Program) (ops : Array Oper) (l : List Ins) : Bx RunF :=
  @List.rec Ins (fun _ => Bx RunF) (.mk stopF) (fun x _ ih => bx ih fun k => match x with
    | .go i => match ops[i]? with
      | some o => stepB P ops (br (isFloat o.op) (some (rankF ops i)) none) o k
      | none => .mk failF
    | .re i => match ops[i]? with
      | some o => reB P ops o k
      | none => .mk failF) l

abbrev RegF := Cx → TM0 → AH → Option (TM0 × AH)

def regB (P : Program) (ops : Array Oper) (draw : Bool) : Bx RegF :=
  br draw (match sched P ops with
    | none => .mk fun _ _ _ => none
    | some is => bx (insB P ops is) fun f => .mk fun cx tm H => f cx H.next tm ⟨H.tr, Nat.add H.next (rankF ops ops.size)⟩)
  (bx (textB P ops ops.toList) fun f => .mk fun cx tm H => f cx 0 tm H)

inductive Ex where
  | normal
  | exit (id : Nat)
  | ret
  deriving Inhabited

inductive Rs where
  | fail
  | ok (e : Ex) (tm : TM0) (h : AH) (mk : List Nat)

abbrev CodeF := Cx → TM0 → AH → List Nat → Rs

def Rs.next (r : Rs) (k : TM0 → AH → List Nat → Rs) : Rs :=
  @Rs.rec (fun _ => Rs) .fail (fun e tm h mk => @Ex.rec (fun _ => Rs) (k tm h mk) (fun id => .ok (.exit id) tm h mk) (.ok .ret tm h mk) e) r

def loopN (f : TM0 → AH → List Nat → Rs) (n : Nat) : TM0 → AH → List Nat → Rs :=
  @Nat.rec (fun _ => TM0 → AH → List Nat → Rs) (fun _ _ _ => .fail) (fun _ ih tm h mk => (f tm h mk).next ih) n

def exCode : Ex → Option Code
  | .normal => none
  | .exit id => some (.exit id)
  | .ret => some .ret

def codeEx : Option Code → Option Ex
  | none => some .normal
  | some (.exit id) => some (.exit id)
  | some .ret => some .ret
  | _ => none

def blockOf (id : Nat) (r : Rs) : Rs :=
  @Rs.rec (fun _ => Rs) .fail (fun e tm h mk => @Ex.rec (fun _ => Rs) (.ok .normal tm h mk) (fun id' => br (Nat.beq id' id) (.ok .normal tm h mk) (.ok (.exit id') tm h mk)) (.ok .ret tm h mk) e) r

def condOf (c : AV) (x y : Rs) : Rs := match c with
  | .bool b => br b x y
  | _ => .fail

def failC : CodeF := fun _ _ _ _ => .fail

/-- Behind the function that was ranged over. -/
def endRange (l d : Nat) (tm : TM0) (mk : List Nat) (r : Option (AV × AH)) : Rs := match r with
  | none => .fail
  | some (_, h3) => match h3.get l with
    | some (.loop st pend fn' tm' ps' a' b' d') =>
      if st = .busy then .fail else
      match codeEx pend with
      | none => .fail
      | some e => h3.putTo l (some (.loop .exhausted pend fn' tm' ps' a' b' d')) fun h4 => .ok e tm h4 (d :: mk)
    | _ => .fail

def rangeF (P : Program) (g : AV) (ps : Array Tmp) (asg body : Code) : CodeF := fun cx tm h mk =>
  match cx.around, g with
  | none, .fn (.func f) first cap =>
    br (hasBody P f) (h.newTo none .defd fun d h1 => h1.newTo none (.loop .ready none cx.fn tm ps asg body d) fun l h2 =>
      endRange l d tm mk (cx.call f (first ++ [.yld l] ++ cap) h2)) .fail
  | _, _ => .fail

def codeB (P : Program) (c : Code) : Bx CodeF :=
  @Code.rec (fun _ => Bx CodeF)
    (.mk fun _ tm h mk => .ok .normal tm h mk)
    (fun _ ops draw => bx (regB P ops draw) fun f => .mk fun cx tm h mk =>
      @Option.rec (TM0 × AH) (fun _ => Rs) .fail (fun p => @Prod.rec TM0 AH (fun _ => Rs) (fun tm' h' => .ok .normal tm' h' mk) p) (f cx tm h))
    (fun _ _ ia ib => bx ia fun a => bx ib fun b => .mk fun cx tm h mk => (a cx tm h mk).next (b cx))
    (fun c _ _ ia ib => bx (opdB c) fun c => bx ia fun a => bx ib fun b => .mk fun cx tm h mk => condOf (c tm) (a cx tm h mk) (b cx tm h mk))
    (fun id _ ib => bx ib fun b => .mk fun cx tm h mk => blockOf id (b cx tm h mk))
    (fun _ ib => bx ib fun b => .mk fun cx tm h mk => loopN (b cx) cx.k tm h mk)
    (fun g ps asg body _ _ => bx (opdB g) fun g => .mk fun cx tm h mk => rangeF P (g tm) ps asg body cx tm h mk)
    (fun id => .mk fun _ tm h mk => .ok (.exit id) tm h mk)
    (fun _ _ => .mk failC)
    (fun _ => .mk fun _ tm h mk => .ok .normal tm h mk)
    (fun _ => .mk failC)
    (.mk fun _ tm h mk => .ok .ret tm h mk)
    (fun _ => .mk failC)
    c

/-! What the code writes lies in the activation's room. -/

def dstOk (n : Nat) : Option Tmp → Bool
  | none => true
  | some d => Nat.blt d n

def codeOk (P : Program) (n : Nat) : Code → Bool
  | .region _ ops _ => allB (fun o => dstOk n o.dst) ops.toList
  | .seq a b => and (codeOk P n a) (codeOk P n b)
  | .cond c a b => and (okOpd P c) (and (codeOk P n a) (codeOk P n b))
  | .block _ b => codeOk P n b
  | .loop b => codeOk P n b
  | .rangeFunc g ps a b => and (okOpd P g) (and (allB (fun d => Nat.blt d n) ps.toList) (and (codeOk P n a) (codeOk P n b)))
  | _ => true
  termination_by structural c => c

def depthOf (f : Nat) : Nat → Nat := @Nat.rec (fun _ => Nat → Nat) (fun _ => 0) (fun _ ih n => @Nat.rec (fun _ => Nat) 0 (fun _ _ => Nat.succ (ih (Nat.div n 2))) n) f

def putAll (l : List AV) : Nat → TM0 → TM0 := @List.rec AV (fun _ => Nat → TM0 → TM0) (fun _ tm => tm) (fun v _ ih i tm => ih (Nat.succ i) (tm.set i v)) l

def closeMarks : List Nat → AH → Option AH
  | [], H => some H
  | d :: ds, H => match H.get d with
    | some .defd => H.putTo d none (closeMarks ds)
    | _ => none

def resB (P : Program) : List ResultVar → Bx (TM0 → AH → Option (List AV))
  | [] => .mk fun _ _ => some []
  | .tmp t :: rs => bx (resB P rs) fun r => .mk fun tm H => ob (r tm H) fun l => some (tm.get t :: l)
  | .cell a t :: rs => bx (resB P rs) fun r => match partF (aggT P t) with
    | none => .mk fun _ _ => none
    | some part => .mk fun tm H => onPtr none (fun b o => ob (ob (cellsTo none H b fun _ cs => part cs o) clearA) fun v => ob (r tm H) fun l => some (v :: l)) (tm.get a)

def tupA : List AV → AV
  | [v] => v
  | l => .tup l

def leaveA (res : TM0 → AH → Option (List AV)) (r : Rs) : Option (AV × AH) := match r with
  | .fail => none
  | .ok (.exit _) _ _ _ => none
  | .ok _ tm h mk => ob (closeMarks mk h) fun H => ob (res tm H) fun l => some (tupA l, H)

abbrev FunF := CallF → RoundF → Nat → List AV → AH → Option (AV × AH)

def funB (P : Program) (f : FuncId) : Bx FunF := br (hasBody P f) (match P.funcs[f]? with
  | none => .mk fun _ _ _ _ _ => none
  | some fn => match fn.body with
    | none => .mk fun _ _ _ _ _ => none
    | some c => br (codeOk P fn.ntmps c) (bx (codeB P c) fun g => bx (resB P fn.results.toList) fun res => .mk fun call round k args H =>
        br (Nat.ble args.length fn.ntmps) (leaveA res (g ⟨call, round, k, f, none⟩ (putAll args 0 (TM0.full (depthOf (fn.ntmps + 1) fn.ntmps))) H [])) none)
      (.mk fun _ _ _ _ _ => none)) (.mk fun _ _ _ _ _ => none)

abbrev PrimF := FuncId → Option (List AV → AH → Option (AV × AH))

def callStep (P : Program) (prim : PrimF) (call : CallF) (round : RoundF) (k : Nat) : CallF := fun f args H =>
  @Option.rec (List AV → AH → Option (AV × AH)) (fun _ => Option (AV × AH)) (bx (funB P f) fun g => g call round k args H) (fun g => g args H) (prim f)

def setAll : List Tmp → List AV → TM0 → Option TM0
  | [], [], tm => some tm
  | t :: ts, v :: vs, tm => setAll ts vs (tm.set t v)
  | _, _, _ => none

def endRound (l : Nat) (r : Rs) : Option (AV × AH) := match r with
  | .fail => none
  | .ok e _ h _ => match h.get l with
    | some (.loop _ _ f t ps a b d) => match e with
      | .normal => h.putTo l (some (.loop .ready none f t ps a b d)) fun h' => some (.bool true, h')
      | e => h.putTo l (some (.loop .done (exCode e) f t ps a b d)) fun h' => some (.bool false, h')
    | _ => none

def beginRound (P : Program) (body : Code) (cx : Cx) (l : Nat) (r : Rs) : Option (AV × AH) := match r with
  | .ok .normal tm h mk => match h.get l with
    | some (.loop .ready p f t ps a b d) => h.putTo l (some (.loop .busy p f t ps a b d)) fun h' => endRound l (bx (codeB P body) fun g => g cx tm h' mk)
    | _ => none
  | _ => none

def roundStep (P : Program) (call : CallF) (round : RoundF) (k : Nat) : RoundF := fun l args H =>
  match H.get l with
  | some (.loop _ _ fn tm ps asg body _) => ob (setAll ps.toList args tm) fun tm1 =>
    beginRound P body ⟨call, round, k, fn, some l⟩ l (bx (codeB P asg) fun g => g ⟨call, round, k, fn, some l⟩ tm1 H [])
  | _ => none

def evBoth (P : Program) (prim : PrimF) (n : Nat) : CallF × RoundF :=
  @Nat.rec (fun _ => CallF × RoundF) (fun _ _ _ => none, fun _ _ _ => none) (fun n ih => (callStep P prim ih.1 ih.2 n, roundStep P ih.1 ih.2 n)) n

def evCall (P : Program) (prim : PrimF) (n : Nat) : CallF := (evBoth P prim n).1

end
end Go.Ab
