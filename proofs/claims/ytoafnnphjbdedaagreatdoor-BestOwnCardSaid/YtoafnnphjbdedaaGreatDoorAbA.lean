/- The abstract evaluator: values, heap, operations. Written for the kernel: recursors, and what is known of the code ahead of what is known of the run. -/
import Derived.RangeFuncIn
import Derived.RangeFuncLeaves
namespace Go.Ab
noncomputable section

inductive AV where
  | bool (b : Bool)
  | int (k : IntKind) (n : Int)
  | str (s : List UInt8)
  | ptr (p : Option (Nat × Nat))
  | slice (p : Option (Nat × Nat)) (len cap : Nat) (ex : Bool)
  | tail (b o : Nat)
  | map (m : Option Nat)
  | fn (f : Fn) (first cap : List AV)
  | yld (l : Nat)
  | nilFn
  | iface (t : TypeId) (v : AV)
  | nilIface
  | agg (cs : List AV)
  | tup (vs : List AV)
  | any
  deriving Inhabited

def undefA : AV := .tup []

def AV.one : AV → Bool
  | .agg _ | .tup _ => false
  | _ => true

def AV.known : AV → Bool
  | .any => false
  | _ => true

def AV.parts : AV → List AV
  | .agg cs => cs
  | v => [v]

/-! Small words, by recursors. -/

/-- What has been worked out: it is looked at before it is used, so the kernel works it out once. -/
inductive Bx (α : Type) where
  | mk (a : α)
def Bx.val {α : Type} (x : Bx α) : α := @Bx.rec α (fun _ => α) (fun a => a) x
def bx {α β : Type} (x : Bx α) (f : α → β) : β := @Bx.rec α (fun _ => β) f x

def ob {α β : Type} (x : Option α) (f : α → Option β) : Option β := @Option.rec α (fun _ => Option β) none f x
def ob2 {α β γ : Type} (x : Option (α × β)) (f : α → β → Option γ) : Option γ := @Option.rec (α × β) (fun _ => Option γ) none (fun p => @Prod.rec α β (fun _ => Option γ) f p) x
def br {α : Type} (c : Bool) (x y : α) : α := @Bool.rec (fun _ => α) y x c
def kx : IntKind → Nat
  | .i8 => 0 | .i16 => 1 | .i32 => 2 | .i64 => 3 | .u8 => 4 | .u16 => 5 | .u32 => 6 | .u64 => 7
def kEq (a b : IntKind) : Bool := Nat.beq (kx a) (kx b)
def ltZ (a b : Int) : Bool :=
  @Int.rec (fun _ => Bool) (fun m => @Int.rec (fun _ => Bool) (fun n => Nat.blt m n) (fun _ => false) b) (fun m => @Int.rec (fun _ => Bool) (fun _ => true) (fun n => Nat.blt n m) b) a
def leZ (a b : Int) : Bool := not (ltZ b a)
def eqZ (a b : Int) : Bool :=
  @Int.rec (fun _ => Bool) (fun m => @Int.rec (fun _ => Bool) (fun n => Nat.beq m n) (fun _ => false) b) (fun m => @Int.rec (fun _ => Bool) (fun _ => false) (fun n => Nat.beq m n) b) a
/-- A number that is at least 0. -/
def natZ (a : Int) : Option Nat := @Int.rec (fun _ => Option Nat) (fun m => some m) (fun _ => none) a
def fitsU (m : Nat) (a : Int) : Bool := @Int.rec (fun _ => Bool) (fun n => Nat.blt n m) (fun _ => false) a
def fitsS (m : Nat) (a : Int) : Bool := @Int.rec (fun _ => Bool) (fun n => Nat.blt n m) (fun n => Nat.blt n m) a
def fits : IntKind → Int → Bool
  | .i8 => fitsS 128 | .i16 => fitsS 32768 | .i32 => fitsS 2147483648 | .i64 => fitsS 9223372036854775808
  | .u8 => fitsU 256 | .u16 => fitsU 65536 | .u32 => fitsU 4294967296 | .u64 => fitsU 18446744073709551616
def wrapZ (k : IntKind) (n : Int) : Int := br (fits k n) n (k.wrap n)
/-! (Each round of a long loop passes a name that is to be opened: the kernel's stack stays low so.) -/
def onCons {α β : Type} (d : β) (f : α → List α → β) (l : List α) : β := @List.rec α (fun _ => β) d (fun x l _ => f x l) l
def onSucc {β : Type} (d : β) (f : Nat → β) (n : Nat) : β := @Nat.rec (fun _ => β) d (fun m _ => f m) n
def allB {α : Type} (f : α → Bool) (l : List α) : Bool := @List.rec α (fun _ => Bool) true (fun x _ ih => br (f x) ih false) l
def lenN {α : Type} (l : List α) (n : Nat) : Bool := @List.rec α (fun _ => Nat → Bool) (fun n => Nat.beq n 0) (fun _ _ ih n => onSucc false ih n) l n
def allM {α β : Type} (f : α → Option β) (l : List α) : Option (List β) :=
  @List.rec α (fun _ => Option (List β)) (some []) (fun x _ ih => ob (f x) fun y => ob ih fun ys => some (y :: ys)) l
def nthO {α : Type} (l : List α) : Nat → Option α := @List.rec α (fun _ => Nat → Option α) (fun _ => none) (fun x _ ih n => onSucc (some x) ih n) l
/-- What is left behind the first n; none: they are fewer. -/
def skip {α : Type} (n : Nat) : List α → Option (List α) :=
  @Nat.rec (fun _ => List α → Option (List α)) (fun l => some l) (fun _ ih l => onCons none (fun _ => ih) l) n
/-- Behind as many as vs are. -/
def skipBy {α : Type} (vs : List α) : List α → Option (List α) :=
  @List.rec α (fun _ => List α → Option (List α)) (fun l => some l) (fun _ _ ih l => onCons none (fun _ => ih) l) vs
def takeL {α : Type} (n : Nat) : List α → List α :=
  @Nat.rec (fun _ => List α → List α) (fun _ => []) (fun _ ih l => @List.rec α (fun _ => List α) [] (fun x l _ => x :: ih l) l) n
/-- The first n ahead of what is given. -/
def takeOnto {α : Type} (n : Nat) (z : List α) : List α → List α :=
  @Nat.rec (fun _ => List α → List α) (fun _ => z) (fun _ ih l => @List.rec α (fun _ => List α) z (fun x l _ => x :: ih l) l) n
def joinL {α : Type} (x y : List α) : List α := @List.rec α (fun _ => List α) y (fun a _ ih => a :: ih) x
/-- The first n of l, of which 'rest' is what stands behind them: l itself, if nothing does. -/
def takeOf {α : Type} (n : Nat) (l rest : List α) : List α := @List.rec α (fun _ => List α) l (fun _ _ _ => takeL n l) rest
/-- n of them, from o on; none: they are too few. -/
def cut {α : Type} (cs : List α) (o n : Nat) : Option (List α) := ob (skip o cs) fun l => ob (skip n l) fun r => some (takeOf n l r)
def onto {α : Type} (vs rest : List α) : List α := @List.rec α (fun _ => List α) vs (fun _ _ _ => joinL vs rest) rest
/-- The cells with some of them written over, from o on; none: they are too few. -/
def over {α : Type} (cs : List α) (o : Nat) (vs : List α) : Option (List α) :=
  ob (skip o cs) fun d => ob (skipBy vs d) fun r => some (@Nat.rec (fun _ => List α) (onto vs r) (fun _ _ => takeOnto o (onto vs r) cs) o)

/-- The temporaries of an activation: a tree of fixed room. -/
inductive TM0 where
  | leaf
  | node (v : AV) (l r : TM0)
  deriving Inhabited

def TM0.get (t : TM0) : Nat → AV :=
  @TM0.rec (fun _ => Nat → AV) (fun _ => undefA)
    (fun v _ _ gl gr n => @Nat.rec (fun _ => AV) v (fun m _ => @Bool.rec (fun _ => AV) (gr (Nat.div m 2)) (gl (Nat.div m 2)) (Nat.beq (Nat.mod m 2) 0)) n) t

def TM0.set (t : TM0) : Nat → AV → TM0 :=
  @TM0.rec (fun _ => Nat → AV → TM0) (fun _ _ => .leaf)
    (fun v l r sl sr n x => @Nat.rec (fun _ => TM0) (.node x l r)
      (fun m _ => @Bool.rec (fun _ => TM0) (.node v l (sr (Nat.div m 2) x)) (.node v (sl (Nat.div m 2) x) r) (Nat.beq (Nat.mod m 2) 0)) n) t

/-- The same; the way is gone now, not later. -/
def TM0.setK {β : Type} (t : TM0) : Nat → AV → (TM0 → β) → β :=
  @TM0.rec (fun _ => Nat → AV → (TM0 → β) → β) (fun _ _ k => k .leaf)
    (fun v l r sl sr n x k => @Nat.rec (fun _ => β) (k (.node x l r))
      (fun m _ => @Bool.rec (fun _ => β) (sr (Nat.div m 2) x fun r' => k (.node v l r')) (sl (Nat.div m 2) x fun l' => k (.node v l' r)) (Nat.beq (Nat.mod m 2) 0)) n) t

def forceI {β : Type} (n : Int) (k : Int → β) : β :=
  @Int.rec (fun _ => β) (fun m => @Nat.rec (fun _ => β) (k (.ofNat 0)) (fun p _ => k (.ofNat (Nat.succ p))) m) (fun m => @Nat.rec (fun _ => β) (k (.negSucc 0)) (fun p _ => k (.negSucc (Nat.succ p))) m) n

def forceV {β : Type} (v : AV) (k : AV → β) : β := match v with
  | .bool b => @Bool.rec (fun _ => β) (k (.bool false)) (k (.bool true)) b
  | .int q n => forceI n fun n => k (.int q n)
  | v => k v

def TM0.full (d : Nat) : TM0 := @Nat.rec (fun _ => TM0) .leaf (fun _ t => .node undefA t t) d

/-- There is such a place. -/
def TM0.has (t : TM0) : Nat → Bool :=
  @TM0.rec (fun _ => Nat → Bool) (fun _ => false)
    (fun _ _ _ hl hr n => @Nat.rec (fun _ => Bool) true (fun m _ => @Bool.rec (fun _ => Bool) (hr (Nat.div m 2)) (hl (Nat.div m 2)) (Nat.beq (Nat.mod m 2) 0)) n) t

inductive ABlk where
  | cells (e : TypeId) (cs : List AV)
  | mp (es : List (AV × AV × Nat)) (clk : Nat)
  | loop (st : LoopState) (pend : Option Code) (fn : FuncId) (tm : TM0) (ps : Array Tmp) (asg body : Code) (d : Nat)
  | defd
  | ro (o : Obj) (f : Nat → Option AV)
  deriving Inhabited

inductive Tr (α : Type) where
  | leaf
  | node (v : Option α) (l r : Tr α)

def Tr.get {α : Type} (t : Tr α) : Nat → Option α :=
  @Tr.rec α (fun _ => Nat → Option α) (fun _ => none)
    (fun v _ _ gl gr n => @Nat.rec (fun _ => Option α) v (fun m _ => @Bool.rec (fun _ => Option α) (gr (Nat.div m 2)) (gl (Nat.div m 2)) (Nat.beq (Nat.mod m 2) 0)) n) t

def Tr.single {α : Type} (x : Option α) (f : Nat) : Nat → Tr α :=
  @Nat.rec (fun _ => Nat → Tr α) (fun _ => .leaf)
    (fun _ ih n => @Nat.rec (fun _ => Tr α) (.node x .leaf .leaf)
      (fun m _ => @Bool.rec (fun _ => Tr α) (.node none .leaf (ih (Nat.div m 2))) (.node none (ih (Nat.div m 2)) .leaf) (Nat.beq (Nat.mod m 2) 0)) n) f

def Tr.put {α : Type} (t : Tr α) : Nat → Option α → Tr α :=
  @Tr.rec α (fun _ => Nat → Option α → Tr α) (fun n x => Tr.single x (Nat.succ n) n)
    (fun v l r pl pr n x => @Nat.rec (fun _ => Tr α) (.node x l r)
      (fun m _ => @Bool.rec (fun _ => Tr α) (.node v l (pr (Nat.div m 2) x)) (.node v (pl (Nat.div m 2) x) r) (Nat.beq (Nat.mod m 2) 0)) n) t

def Tr.putK {α β : Type} (t : Tr α) : Nat → Option α → (Tr α → β) → β :=
  @Tr.rec α (fun _ => Nat → Option α → (Tr α → β) → β) (fun n x k => k (Tr.single x (Nat.succ n) n))
    (fun v l r pl pr n x k => @Nat.rec (fun _ => β) (k (.node x l r))
      (fun m _ => @Bool.rec (fun _ => β) (pr (Nat.div m 2) x fun r' => k (.node v l r')) (pl (Nat.div m 2) x fun l' => k (.node v l' r)) (Nat.beq (Nat.mod m 2) 0)) n) t

structure AH where
  tr : Tr ABlk
  next : Nat

def AH.get (H : AH) (b : Nat) : Option ABlk := H.tr.get b
def AH.put (H : AH) (b : Nat) (x : Option ABlk) : AH := ⟨H.tr.put b x, H.next⟩
def AH.putTo {β : Type} (H : AH) (b : Nat) (x : Option ABlk) (k : AH → β) : β := H.tr.putK b x fun t => k ⟨t, H.next⟩
/-- A new block: at the next number, or at one that is kept for it. -/
def AH.newTo {β : Type} (H : AH) (at_ : Option Nat) (x : ABlk) (k : Nat → AH → β) : β :=
  @Option.rec Nat (fun _ => β) (H.tr.putK H.next (some x) fun t => k H.next ⟨t, Nat.succ H.next⟩) (fun b => H.tr.putK b (some x) fun t => k b ⟨t, H.next⟩) at_

def ofVal1 : Value → Option AV
  | .bool b => some (.bool b)
  | .int k n => some (.int k n)
  | .string s => some (.str s.data.toList)
  | .pointer none => some (.ptr none)
  | .slice none n c => some (.slice none n c true)
  | .map none => some (.map none)
  | .nilFunc => some .nilFn
  | .nilIface => some .nilIface
  | _ => none

def ofVal : Value → Option AV
  | .agg cs => ob (allM ofVal1 cs.toList) fun l => some (.agg l)
  | .tuple cs => ob (allM ofVal1 cs.toList) fun l => some (.tup l)
  | .iface t v => ob (ofVal1 v) fun x => some (.iface t x)
  | v => ofVal1 v

def okOpd (P : Program) : Operand → Bool
  | .const v => (ofVal v).isSome
  | .global g => Nat.blt g P.globals.size
  | _ => true

def opd (tm : TM0) : Operand → AV
  | .tmp t => tm.get t
  | .const v => (ofVal v).getD undefA
  | .global g => .ptr (some (g, 0))
  | .func f => .fn (.func f) [] []

/-- The same, the operand first. -/
def opdB : Operand → Bx (TM0 → AV)
  | .tmp t => .mk fun tm => tm.get t
  | .const v => @Option.rec AV (fun _ => Bx (TM0 → AV)) (.mk fun _ => undefA) (fun v => .mk fun _ => v) (ofVal v)
  | .global g => .mk fun _ => .ptr (some (g, 0))
  | .func f => .mk fun _ => .fn (.func f) [] []

def argsB (l : List Operand) : Bx (TM0 → List AV) :=
  @List.rec Operand (fun _ => Bx (TM0 → List AV)) (.mk fun _ => []) (fun x _ ih => bx (opdB x) fun a => bx ih fun r => .mk fun tm => a tm :: r tm) l

/-- Numbered parts. -/
def partsB (l : List (Nat × Operand)) : Bx (TM0 → List (Nat × AV)) :=
  @List.rec (Nat × Operand) (fun _ => Bx (TM0 → List (Nat × AV))) (.mk fun _ => []) (fun x _ ih => bx (opdB x.2) fun a => bx ih fun r => .mk fun tm => (x.1, a tm) :: r tm) l

inductive Out where
  | val (v : AV) (H : AH)
  | skip (H : AH)
  | enter (f : FuncId) (args : List AV)
  | round (l : Nat) (args : List AV)

def vO (H : AH) (x : Option AV) : Option Out := ob x fun v => some (.val v H)
def vO2 (x : Option (AV × AH)) : Option Out := ob2 x fun v H => some (.val v H)
def sO (x : Option AH) : Option Out := ob x fun H => some (.skip H)

/-! Types. -/
section
variable (P : Program)
def szOf (t : TypeId) : Option Nat := ob (P.info? t) fun i => some i.size
def byOf (t : TypeId) : Option Nat := ob (P.info? t) fun i => some i.bytes
def zeroA (t : TypeId) : Option AV := ob (P.info? t) fun i => ob i.zero ofVal
/-- some (some n): an aggregate of n cells; some none: one cell. -/
def aggT (t : TypeId) : Option (Option Nat) := match P.underlying t with
  | some (.struct _) | some (.array _ _) => ob (szOf P t) fun n => some (some n)
  | some _ => some none
  | none => none
/-- A slice type's element. -/
def slT (t : TypeId) : Option TypeId := match P.underlying t with
  | some (.slice e) => some e
  | _ => none
/-- An element type: its cells, its zero cells. -/
def elT (e : TypeId) : Option (Nat × List AV) := ob (szOf P e) fun sz => ob (zeroA P e) fun z =>
  br (lenN z.parts sz) (br (allB AV.one z.parts) (some (sz, z.parts)) none) none
def mapT (t : TypeId) : Option (TypeId × TypeId) := match P.underlying t with
  | some (.map k e) => some (k, e)
  | _ => none
end

def onPtr {β : Type} (d : β) (f : Nat → Nat → β) : AV → β
  | .ptr (some (b, o)) => f b o
  | _ => d

def cellsTo {β : Type} (d : β) (H : AH) (b : Nat) (f : TypeId → List AV → β) : β :=
  @Option.rec ABlk (fun _ => β) d (fun x => @ABlk.casesOn (fun _ => β) x f (fun _ _ => d) (fun _ _ _ _ _ _ _ _ => d) d (fun _ _ => d)) (H.get b)
/-- Cells that are read alone, too. -/
def rowTo {β : Type} (d : β) (H : AH) (b : Nat) (f : List AV → β) (g : (Nat → Option AV) → β) : β :=
  @Option.rec ABlk (fun _ => β) d (fun x => @ABlk.casesOn (fun _ => β) x (fun _ cs => f cs) (fun _ _ => d) (fun _ _ _ _ _ _ _ _ => d) d (fun _ h => g h)) (H.get b)
/-- n cells, from o on. -/
def roList (f : Nat → Option AV) (o n : Nat) : Option (List AV) :=
  @Nat.rec (fun _ => Nat → Option (List AV)) (fun _ => some []) (fun _ ih o => ob (f o) fun x => ob (ih (Nat.succ o)) fun l => some (x :: l)) n o

abbrev OpF := TM0 → AH → Option Nat → Option Out

def dead : Bx OpF := .mk fun _ _ _ => none

/-- The part of a type of some cells, from o on. -/
def partF : Option (Option Nat) → Option (List AV → Nat → Option AV)
  | none => none
  | some none => some fun cs o => nthO cs o
  | some (some n) => some fun cs o => ob (cut cs o n) fun l => some (.agg l)

def oMove (x : TM0 → AV) : Bx OpF := .mk fun tm H _ => some (.val (x tm) H)
def pickA (c a b : AV) : Option AV := match c with
  | .bool c => some (br c a b)
  | _ => none
def oPick (c a b : TM0 → AV) : Bx OpF := .mk fun tm H _ => vO H (pickA (c tm) (a tm) (b tm))
def newVar (e : TypeId) (cs : List AV) (H : AH) (at_ : Option Nat) : Option Out := H.newTo at_ (.cells e cs) fun b H' => some (.val (.ptr (some (b, 0))) H')
def oAlloc (e : TypeId) : Option AV → Bx OpF
  | none => dead
  | some z => br (allB AV.one z.parts) (.mk fun _ H at_ => newVar e z.parts H at_) dead
def oBox (e : TypeId) (x : TM0 → AV) : Bx OpF := .mk fun tm H at_ => br (allB AV.one (x tm).parts) (newVar e (x tm).parts H at_) none

def fillA (place : Nat → Option (Nat × Nat)) : List (Nat × AV) → List AV → Option (List AV)
  | [] => fun cs => some cs
  | (i, v) :: rest => fun cs => ob2 (place i) fun off size => br (lenN v.parts size) (ob (over cs off v.parts) (fillA place rest)) none

def placesA (P : Program) (t : TypeId) : Option (Nat → Option (Nat × Nat)) := match P.underlying t with
  | some (.struct fs) => ob (allM (fun f : Field => ob (szOf P f.type) fun n => some (f.offset, n)) fs.toList) fun l => some (nthO l)
  | some (.array _ e) => ob (szOf P e) fun sz => some fun i => some (i * sz, sz)
  | _ => none
def oBuild (ps : TM0 → List (Nat × AV)) : Option AV → Option (Nat → Option (Nat × Nat)) → Bx OpF
  | some z, some pl => .mk fun tm H _ => vO H (ob (fillA pl (ps tm) z.parts) fun cs => some (.agg cs))
  | _, _ => dead

def reps (n : Nat) (z : List AV) : List AV := match z with
  | [x] => @Nat.rec (fun _ => List AV) [] (fun _ l => x :: l) n
  | _ => @Nat.rec (fun _ => List AV) [] (fun _ l => joinL z l) n

def newSlice (e : TypeId) (cs : List AV) (l c : Nat) (H : AH) (at_ : Option Nat) : Option Out :=
  H.newTo at_ (.cells e cs) fun b H' => some (.val (.slice (some (b, 0)) l c true) H')

def oBuildSlice (n : Nat) (ps : TM0 → List (Nat × AV)) : Option TypeId → (TypeId → Option (Nat × List AV)) → Bx OpF
  | none => fun _ => dead
  | some e => fun el => match el e with
    | none => dead
    | some (sz, z) => br (Nat.ble (n * sz) 16777216)
        (.mk fun tm H at_ => br (allB (fun x : Nat × AV => allB AV.one x.2.parts) (ps tm)) (ob (fillA (fun i => some (i * sz, sz)) (ps tm) (reps n z)) fun cs => newSlice e cs n n H at_) none) dead

/-- No cell of it is unknown. -/
def clearA : AV → Option AV
  | .any => none
  | .agg cs => br (allB AV.known cs) (some (.agg cs)) none
  | v => some v
def cellsQ : Option (Option Nat) → Nat
  | some (some n) => n
  | _ => 1
def oLoad (a : TM0 → AV) (n : Nat) : Option (List AV → Nat → Option AV) → Bx OpF
  | none => dead
  | some part => .mk fun tm H _ => onPtr none (fun b o => vO H (ob (rowTo none H b (fun cs => part cs o) fun f => ob (roList f o n) fun l => part l 0) clearA)) (a tm)

def writeA (H : AH) (b o : Nat) (vs : List AV) : Option AH :=
  match vs with
  | [] => some H
  | v :: vs => cellsTo none H b fun e cs => ob (over cs o (v :: vs)) fun cs' => H.putTo b (some (.cells e cs')) some

def oStore (a v : TM0 → AV) : Option Nat → Bx OpF
  | none => dead
  | some n => .mk fun tm H _ => onPtr none (fun b o => br (lenN (v tm).parts n) (br (allB AV.one (v tm).parts) (sO (writeA H b o (v tm).parts)) none) none) (a tm)

def nilOk : AV → Bool
  | .ptr none | .nilIface | .nilFn | .any => false
  | .fn (.method _) _ _ => false
  | _ => true
def oNilCheck (x : TM0 → AV) : Bx OpF := .mk fun tm H _ => br (nilOk (x tm)) (some (.val (x tm) H)) none

/-! Operators. -/

def binI : BinOp → Option (IntKind → Int → Int → Option AV)
  | .add => some fun k a b => some (.int k (wrapZ k (Int.add a b)))
  | .sub => some fun k a b => some (.int k (wrapZ k (Int.sub a b)))
  | .mul => some fun k a b => some (.int k (wrapZ k (Int.mul a b)))
  | .quo => some fun k a b => br (eqZ b 0) none (some (.int k (wrapZ k (a.tdiv b))))
  | .rem => some fun k a b => br (eqZ b 0) none (some (.int k (a.tmod b)))
  | .and => some fun k a b => some (.int k (k.wrap (BitVec.ofInt k.bits a &&& BitVec.ofInt k.bits b).toNat))
  | .or => some fun k a b => some (.int k (k.wrap (BitVec.ofInt k.bits a ||| BitVec.ofInt k.bits b).toNat))
  | .xor => some fun k a b => some (.int k (k.wrap (BitVec.ofInt k.bits a ^^^ BitVec.ofInt k.bits b).toNat))
  | .andNot => some fun k a b => some (.int k (k.wrap (BitVec.ofInt k.bits a &&& ~~~ BitVec.ofInt k.bits b).toNat))
  | .eql => some fun _ a b => some (.bool (eqZ a b))
  | .neq => some fun _ a b => some (.bool (not (eqZ a b)))
  | .lss => some fun _ a b => some (.bool (ltZ a b))
  | .leq => some fun _ a b => some (.bool (leZ a b))
  | .gtr => some fun _ a b => some (.bool (ltZ b a))
  | .geq => some fun _ a b => some (.bool (leZ b a))
  | _ => none

def strEq (x : List UInt8) : List UInt8 → Bool :=
  @List.rec UInt8 (fun _ => List UInt8 → Bool) (fun y => @List.rec UInt8 (fun _ => Bool) true (fun _ _ _ => false) y)
    (fun a _ ih y => onCons false (fun b y => br (Nat.beq a.toNat b.toNat) (ih y) false) y) x

def binS : BinOp → Option (List UInt8 → List UInt8 → Option AV)
  | .add => some fun a b => br (Nat.ble (a.length + b.length) 140737488355328) (some (.str (joinL a b))) none
  | .eql => some fun a b => some (.bool (strEq a b))
  | .neq => some fun a b => some (.bool (not (strEq a b)))
  | .lss => some fun a b => some (.bool (Op.bytesLess a b))
  | .leq => some fun a b => some (.bool (or (Op.bytesLess a b) (strEq a b)))
  | .gtr => some fun a b => some (.bool (not (or (Op.bytesLess a b) (strEq a b))))
  | .geq => some fun a b => some (.bool (not (Op.bytesLess a b)))
  | _ => none

section
variable (P : Program)

def eqFields (eq : TypeId → AV → AV → Option Bool) : List Field → List AV → List AV → Option Bool
  | [], _, _ => some true
  | f :: fs, xs, ys =>
    if f.name = "_" then none else
    ob (partF (aggT P f.type)) fun part => ob (part xs f.offset) fun a => ob (part ys f.offset) fun b => ob (eq f.type a b) fun e => br e (eqFields eq fs xs ys) (some false)

/-- Equality of two values at a type whose equality needs no memory (integers, strings, bools, structs of them). -/
def eqFlat : Nat → TypeId → AV → AV → Option Bool
  | 0, _, _, _ => none
  | d + 1, t, x, y => match P.underlying t, x, y with
    | some .bool, .bool a, .bool b => some (a == b)
    | some (.int _), .int k a, .int k' b => br (kEq k k') (some (eqZ a b)) none
    | some .string, .str a, .str b => some (strEq a b)
    | some (.struct fs), .agg xs, .agg ys => br (P.stoodInHeld t) none (eqFields P (eqFlat d) fs.toList xs ys)
    | _, _, _ => none

def eqA (d : Nat) (t : TypeId) (cx cy : Bool) (x y : AV) : Option Bool :=
  match P.underlying t, x, y with
  | some .bool, .bool a, .bool b => some (a == b)
  | some (.pointer _), .ptr none, .ptr b => some b.isNone
  | some (.pointer _), .ptr (some _), .ptr none => some false
  | some (.pointer e), .ptr (some (b, o)), .ptr (some (b', o')) => match szOf P e with
    | some (_ + 1) => br (Nat.beq b b') (some (Nat.beq o o')) none
    | _ => none
  | some (.slice _), .slice none _ _ _, .slice p _ _ _ => some p.isNone
  | some (.slice _), .slice none _ _ _, .tail _ _ => some false
  | some (.slice _), .slice (some _) _ _ _, .slice none _ _ _ => some false
  | some (.slice _), .tail _ _, .slice none _ _ _ => some false
  | some (.map _ _), .map none, .map b => some b.isNone
  | some (.map _ _), .map (some _), .map none => some false
  | some (.func ..), .nilFn, .nilFn => some true
  | some (.func ..), .nilFn, .fn _ _ _ => some false
  | some (.func ..), .fn _ _ _, .nilFn => some false
  | some (.interface _), .nilIface, .nilIface => br (or cx cy) (some true) none
  | some (.interface _), .nilIface, .iface _ _ => some false
  | some (.interface _), .iface _ _, .nilIface => some false
  | some (.interface _), .iface a v, .iface b w =>
    br (Nat.beq a b) (ob (P.info? a) fun i => br i.comparable (eqFlat P d a v w) none) (some false)
  | some (.struct _), .agg _, .agg _ => br (P.eqGuardType P.depth t) none (eqFlat P (d + 1) t x y)
  | _, _, _ => none

def isConst : Operand → Bool
  | .const _ => true
  | _ => false

def eqOp (op : BinOp) : Option (Bool → AV) := match op with
  | .eql => some .bool
  | .neq => some fun b => .bool (not b)
  | _ => none

def shiftF : BinOp → Option (IntKind → Int → Int → Option AV)
  | .shl => some fun k a b => br (ltZ b 0) none (some (.int k (wrapZ k (a * 2 ^ (min b.toNat k.bits)))))
  | .shr => some fun k a b => br (ltZ b 0) none (some (.int k (a.fdiv (2 ^ (min b.toNat k.bits)))))
  | _ => none

def onInts (d : Option AV) (f : IntKind → Int → IntKind → Int → Option AV) (x y : AV) : Option AV := match x with
  | .int k a => match y with
    | .int k' b => f k a k' b
    | _ => d
  | _ => d
def onStrs (d : Option AV) (f : List UInt8 → List UInt8 → Option AV) (x y : AV) : Option AV := match x with
  | .str a => match y with
    | .str b => f a b
    | _ => d
  | _ => d

def binS' : Option (List UInt8 → List UInt8 → Option AV) → Bx (AV → AV → Option AV)
  | none => .mk fun _ _ => none
  | some f => .mk (onStrs none f)
def binE (t : TypeId) (cx cy : Bool) : Option (Bool → AV) → Bx (AV → AV → Option AV)
  | none => .mk fun _ _ => none
  | some f => .mk fun x y => ob (eqA P 9999 t cx cy x y) fun b => some (f b)
def binI' : Option (IntKind → Int → Int → Option AV) → Bx (AV → AV → Option AV)
  | none => .mk fun _ _ => none
  | some f => .mk (onInts none fun k a k' b => br (kEq k k') (f k a b) none)

def isInt : Option TypeDesc → Bool
  | some (.int _) => true
  | _ => false
def isStr : Option TypeDesc → Bool
  | some .string => true
  | _ => false

/-- A binary operator: by the type of its operands. -/
def binA (op : BinOp) (t : TypeId) (cx cy : Bool) : Bx (AV → AV → Option AV) :=
  match shiftF op with
  | some f => .mk (onInts none fun k a _ b => f k a b)
  | none => br (isInt (P.underlying t)) (binI' (binI op)) (br (isStr (P.underlying t)) (binS' (binS op)) (binE P t cx cy (eqOp op)))
end

def oBin (x y : TM0 → AV) (f : Bx (AV → AV → Option AV)) : Bx OpF := bx f fun f => .mk fun tm H _ => vO H (f (x tm) (y tm))

def unA : UnOp → Option (AV → Option AV)
  | .neg => some fun x => match x with
    | .int k n => some (.int k (wrapZ k (Int.sub 0 n)))
    | _ => none
  | .xor => some fun x => match x with
    | .int k n => some (.int k (k.wrap (BitVec.ofInt k.bits (if k.signed then -1 else k.max) ^^^ BitVec.ofInt k.bits n).toNat))
    | _ => none
  | .not => some fun x => match x with
    | .bool b => some (.bool (not b))
    | _ => none
  | _ => none
def oUn (x : TM0 → AV) : Option (AV → Option AV) → Bx OpF
  | none => dead
  | some f => .mk fun tm H _ => vO H (f (x tm))

/-! Slices. -/

def lenA : AV → Option Nat
  | .slice _ n _ _ => some n
  | .tail _ _ => some 0
  | .str s => some s.length
  | _ => none

/-- Cells of the first n elements, each of size sz. -/
def sliceCells (H : AH) (sz n : Nat) (v : AV) : Option (List AV) :=
  match v with
  | .slice none _ _ _ => br (Nat.beq n 0) (some []) none
  | .slice (some (b, o)) len _ _ => br (Nat.ble n len) (br (Nat.beq n 0) (some []) (ob (rowTo none H b (fun cs => cut cs o (Nat.mul n sz)) fun f => roList f o (Nat.mul n sz)) fun l => br (allB AV.known l) (some l) none)) none
  | .tail _ _ => br (Nat.beq n 0) (some []) none
  | .str s => some ((s.take n).map fun b => .int .u8 b.toNat)
  | _ => none

def bndA (y : Nat) : AV → Option Nat
  | .int _ n => ob (natZ n) fun m => br (Nat.ble m y) (some m) none
  | _ => none

def bndO (d y : Nat) : Option AV → Option Nat
  | none => some d
  | some v => bndA y v

def bndsTo {β : Type} (len cap : Nat) (lo hi mx : Option AV) (k : Nat → Nat → Nat → Option β) : Option β :=
  ob (bndO cap cap mx) fun m => ob (bndO len m hi) fun h => ob (bndO 0 h lo) fun l => k l h m

def moveP (n : Nat) : Option (Nat × Nat) → Option (Nat × Nat)
  | none => none
  | some (b, o) => some (b, Nat.add o n)

inductive SK where
  | arr (n sz : Nat)
  | sl (sz : Nat)
  | str

def skOf (P : Program) (t : TypeId) : Option SK := match P.underlying t with
  | some (.array n e) => ob (szOf P e) fun sz => some (.arr n sz)
  | some .string => some .str
  | some (.slice e) => ob (szOf P e) fun sz => some (.sl sz)
  | _ => none

def sliceA (hasHi hasMx : Bool) : SK → Bx (AV → Option AV → Option AV → Option AV → Option AV)
  | .arr n sz => br (and hasMx (not hasHi)) (.mk fun _ _ _ _ => none) (.mk fun x lo hi mx => match x with
    | .ptr (some (b, o)) => bndsTo n n lo hi mx fun l h m => some (.slice (some (b, br (Nat.beq m l) o (Nat.add o (Nat.mul l sz)))) (Nat.sub h l) (Nat.sub m l) true)
    | _ => none)
  | .str => br hasMx (.mk fun _ _ _ _ => none) (.mk fun x lo hi _ => match x with
    | .str s => bndsTo s.length s.length lo hi none fun l h _ => some (.str ((s.drop l).take (h - l)))
    | _ => none)
  | .sl sz => br (and hasMx (not hasHi)) (.mk fun _ _ _ _ => none) (.mk fun x lo hi mx => match x with
    | .slice p len cap ex => bndsTo len cap lo hi mx fun l h m =>
        br (or hasMx ex) (some (.slice (br (Nat.beq m l) p (moveP (Nat.mul l sz) p)) (Nat.sub h l) (Nat.sub m l) true))
          (br (Nat.beq m l) (match p with
            | some (b, o) => br (Nat.beq h l) (some (.tail b (Nat.add o (Nat.mul l sz)))) none
            | none => none)
          (br (Nat.ble l m) (some (.slice (moveP (Nat.mul l sz) p) (Nat.sub h l) (Nat.sub m l) false)) none))
    | .tail b o => bndsTo 0 0 lo hi mx fun _ _ _ => some (.tail b o)
    | _ => none)

def opdO : Option Operand → Bx (TM0 → Option AV)
  | none => .mk fun _ => none
  | some x => bx (opdB x) fun a => .mk fun tm => some (a tm)

def oSlice (x : TM0 → AV) (lo hi mx : Bx (TM0 → Option AV)) (hasHi hasMx : Bool) : Option SK → Bx OpF
  | none => dead
  | some k => bx lo fun lo => bx hi fun hi => bx mx fun mx => bx (sliceA hasHi hasMx k) fun f => .mk fun tm H _ => vO H (f (x tm) (lo tm) (hi tm) (mx tm))

def fieldOf (P : Program) (s : TypeId) (f : Nat) : Option Field := match P.underlying s with
  | some (.struct fs) => fs[f]?
  | _ => none
/-- The offset of a field that takes room. -/
def fieldOff (P : Program) (s : TypeId) (f : Nat) : Option Nat := ob (fieldOf P s f) fun fd => match szOf P fd.type with
  | some (_ + 1) => some fd.offset
  | _ => none
def oFieldAddr (x : TM0 → AV) : Option Nat → Bx OpF
  | none => dead
  | some off => .mk fun tm H _ => onPtr none (fun b o => some (.val (.ptr (some (b, Nat.add o off))) H)) (x tm)

def fieldA (off : Nat) (part : List AV → Nat → Option AV) : AV → Option AV
  | .agg cs => part cs off
  | _ => none
def oField (P : Program) (x : TM0 → AV) : Option Field → Bx OpF
  | none => dead
  | some fd => match partF (aggT P fd.type) with
    | none => dead
    | some part => .mk fun tm H _ => vO H (fieldA fd.offset part (x tm))

def idxA (n : Nat) : AV → Option Nat
  | .int _ i => ob (natZ i) fun m => br (Nat.blt m n) (some m) none
  | _ => none

def idxArr (n sz : Nat) (x i : AV) : Option AV := match x with
  | .ptr (some (b, o)) => ob (idxA n i) fun m => some (.ptr (some (b, Nat.add o (Nat.mul m sz))))
  | _ => none
def idxSl (sz : Nat) (x i : AV) : Option AV := match x with
  | .slice (some (b, o)) len _ _ => ob (idxA len i) fun m => some (.ptr (some (b, Nat.add o (Nat.mul m sz))))
  | _ => none
def oIndexAddr (x i : TM0 → AV) : Option SK → Bx OpF
  | some (.arr n sz) => .mk fun tm H _ => vO H (idxArr n sz (x tm) (i tm))
  | some (.sl sz) => .mk fun tm H _ => vO H (idxSl sz (x tm) (i tm))
  | _ => dead

def indexA (P : Program) (t : TypeId) : Option (AV → AV → Option AV) := match P.underlying t with
  | some (.array len e) => ob (szOf P e) fun sz => ob (partF (aggT P e)) fun part => some fun x i => match x with
    | .agg cs => ob (idxA len i) fun m => part cs (Nat.mul m sz)
    | _ => none
  | some .string => some fun x i => match x, i with
    | .str s, .int _ n => ob (natZ n) fun m => ob (nthO s m) fun b => some (.int .u8 b.toNat)
    | _, _ => none
  | _ => none
def oIndex (x i : TM0 → AV) : Option (AV → AV → Option AV) → Bx OpF
  | none => dead
  | some f => .mk fun tm H _ => vO H (f (x tm) (i tm))

def oMakeSlice (P : Program) (l c : TM0 → AV) : Option TypeId → Bx OpF
  | none => dead
  | some e => match elT P e, byOf P e with
    | some (sz, z), some by_ => .mk fun tm H at_ => match l tm, c tm with
      | .int _ l, .int _ c => br (Nat.blt 0 sz) (ob (natZ l) fun l => ob (natZ c) fun c => br (Nat.ble l c) (br (Nat.ble (Nat.mul by_ c) 281474976710656) (br (Nat.ble c 4611686018427387904) (newSlice e (reps c z) l c H at_) none) none) none) none
      | _, _ => none
    | _, _ => dead

/-! Conversions, interfaces, functions. -/

def byteOfA : AV → Option UInt8
  | .int .u8 n => some (UInt8.ofNat n.toNat)
  | _ => none

inductive CK where
  | int (k : IntKind)
  | str
  | bytes (e : TypeId)
  | same (e : TypeId)
  | text

def isU8 (P : Program) (e : TypeId) : Bool := match P.underlying e, szOf P e with
  | some (.int .u8), some 1 => true
  | _, _ => false

def ckOf (P : Program) (src dst : TypeId) : Option CK := match P.underlying src, P.underlying dst with
  | some _, some (.int k) => some (.int k)
  | some (.slice e), some .string => br (isU8 P e) (some .text) none
  | some .string, some .string => some .str
  | some .string, some (.slice e) => br (isU8 P e) (some (.bytes e)) none
  | some (.slice _), some (.slice e) => br (Nat.beq src dst) (br (isU8 P e) (some (.same e)) none) none
  | _, _ => none

def oConv (x : TM0 → AV) : Option CK → Bx OpF
  | none => dead
  | some (.int k) => .mk fun tm H _ => match x tm with
    | .int _ n => some (.val (.int k (wrapZ k n)) H)
    | _ => none
  | some .str => .mk fun tm H _ => match x tm with
    | .str s => some (.val (.str s) H)
    | _ => none
  | some (.bytes e) => .mk fun tm H at_ => match x tm with
    | .str s => H.newTo at_ (.cells e (s.map fun b => .int .u8 b.toNat)) fun b H' => some (.val (.slice (some (b, 0)) s.length s.length false) H')
    | _ => none
  | some (.same e) => .mk fun tm H _ => match x tm with
    | .slice (some (b, o)) len cap ex => cellsTo none H b fun t _ => br (Nat.beq t e) (some (.val (.slice (some (b, o)) len cap ex) H)) none
    | _ => none
  | some .text => .mk fun tm H _ => match x tm with
    | .str _ => none
    | v => ob (lenA v) fun n => ob (sliceCells H 1 n v) fun cs => ob (allM byteOfA cs) fun bs => some (.val (.str bs) H)

def oIface (t : TypeId) (x : TM0 → AV) : Option TypeDesc → Bx OpF
  | none => dead
  | some (.interface _) => dead
  | some _ => .mk fun tm H _ => some (.val (.iface t (x tm)) H)

def oFunc (f : Fn) (first cap : TM0 → List AV) : Bx OpF := match f with
  | .yield _ => dead
  | f => .mk fun tm H _ => some (.val (.fn f (first tm) (cap tm)) H)

def oMap : Option Operand → Bx OpF
  | none => .mk fun _ H at_ => H.newTo at_ (.mp [] 0) fun b H' => some (.val (.map (some b)) H')
  | some _ => dead

/-! Maps. -/

def keyEq (a b : AV) : Option Bool := match a with
  | .int k a => match b with
    | .int k' b => br (kEq k k') (some (eqZ a b)) none
    | _ => none
  | .str a => match b with
    | .str b => some (strEq a b)
    | _ => none
  | .bool a => match b with
    | .bool b => some (a == b)
    | _ => none
  | _ => none

def keyT (P : Program) (t : TypeId) : Option (AV → Bool) := match P.underlying t with
  | some (.int _) => some fun k => match k with | .int _ _ => true | _ => false
  | some .string => some fun k => match k with | .str _ => true | _ => false
  | some .bool => some fun k => match k with | .bool _ => true | _ => false
  | _ => none

def findA (k : AV) (es : List (AV × AV × Nat)) : Nat → Option (Option (Nat × AV)) :=
  @List.rec (AV × AV × Nat) (fun _ => Nat → Option (Option (Nat × AV))) (fun _ => some none)
    (fun e _ ih i => ob (keyEq k e.1) fun q => br q (some (some (i, e.2.1))) (ih (Nat.succ i))) es

def mpTo {β : Type} (d : β) (H : AH) (b : Nat) (f : List (AV × AV × Nat) → Nat → β) : β :=
  @Option.rec ABlk (fun _ => β) d (fun x => @ABlk.casesOn (fun _ => β) x (fun _ _ => d) f (fun _ _ _ _ _ _ _ _ => d) d (fun _ _ => d)) (H.get b)

def entriesTo (H : AH) (f : List (AV × AV × Nat) → Option AV) : AV → Option AV
  | .map none => f []
  | .map (some b) => mpTo none H b fun es _ => f es
  | _ => none

def oLookup (P : Program) (m k : TM0 → AV) (ok : Bool) : Option (TypeId × TypeId) → Bx OpF
  | none => dead
  | some (kt, et) => match keyT P kt, zeroA P et with
    | some kok, some z => .mk fun tm H _ => br (kok (k tm)) (vO H (entriesTo H (fun es => ob (findA (k tm) es 0) fun r =>
        some (@Option.rec (Nat × AV) (fun _ => AV) (br ok (.tup [z, .bool false]) z) (fun x => br ok (.tup [x.2, .bool true]) x.2) r)) (m tm))) none
    | _, _ => dead

def mapPut (H : AH) (b : Nat) (k v : AV) : Option AH := mpTo none H b fun es clk => ob (findA k es 0) fun r =>
  @Option.rec (Nat × AV) (fun _ => Option AH) (H.putTo b (some (.mp (es ++ [(k, v, clk)]) (Nat.succ clk))) some) (fun x => H.putTo b (some (.mp (es.modify x.1 fun e => (k, v, e.2.2)) clk)) some) r

def oMapUpdate (P : Program) (m k v : TM0 → AV) : Option (TypeId × TypeId) → Bx OpF
  | none => dead
  | some (kt, _) => match keyT P kt with
    | some kok => .mk fun tm H _ => br (kok (k tm)) (match m tm with
      | .map (some b) => sO (mapPut H b (k tm) (v tm))
      | _ => none) none
    | none => dead

def mapDel (H : AH) (b : Nat) (k : AV) : Option AH := mpTo none H b fun es clk => ob (findA k es 0) fun r =>
  @Option.rec (Nat × AV) (fun _ => Option AH) (H.putTo b (some (.mp es clk)) some) (fun x => H.putTo b (some (.mp (es.eraseIdx x.1) clk)) some) r

/-! Type assertions. -/

def failT (ok : Bool) (z : Option AV) : Option AV := br ok (ob z fun z => some (.tup [z, .bool false])) none
def holdT (ok : Bool) (v : AV) : AV := br ok (.tup [v, .bool true]) v
/-- No method lacks. -/
def hasAllM (want : Array (String × TypeId)) (got : Array Method) : Bool := allB (fun x : String × TypeId => got.toList.any fun m => m.name == x.1 && m.sig == x.2) want.toList
def oAssert (P : Program) (x : TM0 → AV) (t : TypeId) (ok : Bool) : Option TypeDesc → Bx OpF
  | none => dead
  | some (.interface want) => .mk fun tm H _ => match x tm with
    | .nilIface => vO H (failT ok (zeroA P t))
    | .iface u v => ob (P.info? u) fun i => br (hasAllM want i.methods) (some (.val (holdT ok (.iface u v)) H)) (vO H (failT ok (zeroA P t)))
    | _ => none
  | some _ => .mk fun tm H _ => match x tm with
    | .nilIface => vO H (failT ok (zeroA P t))
    | .iface u v => br (Nat.beq u t) (some (.val (holdT ok v) H)) (vO H (failT ok (zeroA P t)))
    | _ => none

def extractA (i : Nat) : AV → Option AV
  | .tup vs => nthO vs i
  | _ => none
def oExtract (t : TM0 → AV) (i : Nat) : Bx OpF := .mk fun tm H _ => vO H (extractA i (t tm))

/-! Builtins. -/

/-- How many an append brings, and their cells. -/
def newZeros (by_ : Nat) (z : List AV) (x : AV) : Option (Nat × List AV) := match x with
  | .int _ n => ob (natZ n) fun n => br (Nat.ble n 1000000000) (br (Nat.ble (Nat.mul n by_) 281474976710656) (some (n, reps n z)) none) none
  | _ => none
def newCells (sz : Nat) (x : AV) (H : AH) : Option (Nat × List AV) := ob (lenA x) fun n => ob (sliceCells H sz n x) fun cs => some (n, cs)

def openNew (e : TypeId) (cs : List AV) (n : Nat) (H : AH) (at_ : Option Nat) : Option Out :=
  H.newTo at_ (.cells e cs) fun b H' => some (.val (.slice (some (b, 0)) n n false) H')

/-- The block of an open slice goes, if it ends where the slice does. -/
def killTo (H : AH) (b o : Nat) (e : TypeId) (at_ : Option Nat) (k : AH → Option Out) : Option Out :=
  match at_ with
  | some _ => none
  | none => cellsTo none H b fun e' cs => br (Nat.beq e' e) (br (lenN cs o) (H.putTo b none k) none) none

def appendTo (e sz by_ : Nat) (s : AV) (n : Nat) (new : List AV) (H : AH) (at_ : Option Nat) : Option Out :=
  match s with
  | .slice p len cap ex =>
    br (Nat.ble (Nat.add len n) cap)
      (match p with
       | none => some (.val (.slice none (Nat.add len n) cap ex) H)
       | some (b, o) => ob (writeA H b (Nat.add o (Nat.mul len sz)) new) fun H' => some (.val (.slice (some (b, o)) (Nat.add len n) cap ex) H'))
      (br (Nat.ble (Nat.mul (Nat.add (Nat.mul 2 (Nat.add len n)) 1024) by_) 281474976710656)
        (ob (sliceCells H sz len s) fun old =>
          br ex (openNew e (joinL old new) (Nat.add len n) H at_)
            (match p with
             | none => none
             | some (b, o) => br (Nat.ble len cap) (killTo H b (Nat.add o (Nat.mul cap sz)) e at_ fun H' => openNew e (joinL old new) (Nat.add len n) H' none) none))
        none)
  | .tail b o => br (Nat.beq n 0) (some (.val (.tail b o) H))
      (br (Nat.ble (Nat.mul (Nat.add (Nat.mul 2 n) 1024) by_) 281474976710656) (killTo H b o e at_ fun H' => openNew e new n H' none) none)
  | _ => none

def appendF (P : Program) (st xt : TypeId) : Option (AV → AV → AH → Option Nat → Option Out) :=
  match slT P st with
  | none => none
  | some e => match elT P e, byOf P e, P.underlying xt with
    | some (sz + 1, z), some (by_ + 1), some xd => br (isInt (some xd))
        (some fun s x H at_ => ob2 (newZeros (by_ + 1) z x) fun n new => appendTo e (sz + 1) (by_ + 1) s n new H at_)
        (some fun s x H at_ => ob2 (newCells (sz + 1) x H) fun n new => appendTo e (sz + 1) (by_ + 1) s n new H at_)
    | _, _, _ => none

def copyF (P : Program) (dt : TypeId) : Option (AV → AV → AH → Option Nat → Option Out) :=
  match slT P dt with
  | none => none
  | some e => match szOf P e with
    | none => none
    | some sz => some fun d s H _ => ob (lenA s) fun n => match d with
      | .slice none len _ _ => br (Nat.beq len 0) (some (.val (.int .i64 0) H)) none
      | .slice (some (b, o)) len _ _ => ob (sliceCells H sz (Nat.min n len) s) fun cs => ob (writeA H b o cs) fun H' => some (.val (.int .i64 (Nat.min n len)) H')
      | .tail _ _ => some (.val (.int .i64 0) H)
      | _ => none

def clearF (P : Program) (t : TypeId) : Option (AV → AH → Option Out) :=
  match P.underlying t with
  | some (.slice e) => ob2 (elT P e) fun _ z => some fun x H => match x with
    | .slice none _ _ _ => some (.val (.tup []) H)
    | .slice (some (b, o)) n _ _ => ob (writeA H b o (reps n z)) fun H' => some (.val (.tup []) H')
    | .tail _ _ => some (.val (.tup []) H)
    | _ => none
  | some (.map _ _) => some fun x H => match x with
    | .map none => some (.val (.tup []) H)
    | .map (some b) => mpTo none H b fun _ clk => H.putTo b (some (.mp [] clk)) fun H' => some (.val (.tup []) H')
    | _ => none
  | _ => none

def deleteF (P : Program) (t : TypeId) : Option (AV → AV → AH → Option Out) :=
  ob2 (mapT P t) fun kt _ => ob (keyT P kt) fun kok => some fun m k H => br (kok k) (match m with
    | .map none => some (.val (.tup []) H)
    | .map (some b) => ob (mapDel H b k) fun H' => some (.val (.tup []) H')
    | _ => none) none

def lenF (P : Program) (t : TypeId) : Option (AV → AH → Option AV) :=
  match P.underlying t with
  | some .string => some fun x _ => match x with
    | .str s => some (.int .i64 (Int.ofNat s.length))
    | _ => none
  | some (.array n _) => some fun _ _ => some (.int .i64 (Int.ofNat n))
  | some (.pointer arr) => match P.underlying arr with
    | some (.array n _) => some fun _ _ => some (.int .i64 (Int.ofNat n))
    | _ => none
  | some (.slice _) => some fun x _ => match x with
    | .slice _ n _ _ => some (.int .i64 (Int.ofNat n))
    | .tail _ _ => some (.int .i64 (Int.ofNat 0))
    | _ => none
  | some (.map _ _) => some fun x H => match x with
    | .map none => some (.int .i64 (Int.ofNat 0))
    | .map (some b) => mpTo none H b fun es _ => some (.int .i64 (Int.ofNat es.length))
    | _ => none
  | _ => none

def capF (P : Program) (t : TypeId) : Option (AV → Option AV) :=
  match P.underlying t with
  | some (.array n _) => some fun _ => some (.int .i64 (Int.ofNat n))
  | some (.pointer arr) => match P.underlying arr with
    | some (.array n _) => some fun _ => some (.int .i64 (Int.ofNat n))
    | _ => none
  | some (.slice _) => some fun x => match x with
    | .slice _ _ c true => some (.int .i64 (Int.ofNat c))
    | _ => none
  | _ => none

def min2A : AV → AV → Option AV := onInts none fun k x _ y => some (.int k (br (ltZ y x) y x))
def max2A : AV → AV → Option AV := onInts none fun k x _ y => some (.int k (br (ltZ x y) y x))
def foldA (f : AV → AV → Option AV) (x : AV) : List AV → Option AV
  | [] => some x
  | y :: ys => ob (f x y) fun z => foldA f z ys
def oFold (f : AV → AV → Option AV) (args : List Operand) : Bx OpF := match args with
  | [x, y] => bx (opdB x) fun x => bx (opdB y) fun y => .mk fun tm H _ => vO H (f (x tm) (y tm))
  | x :: xs => bx (opdB x) fun x => bx (argsB xs) fun xs => .mk fun tm H _ => vO H (foldA f (x tm) (xs tm))
  | [] => dead

def oArgs1 (x : TM0 → AV) : Option (AV → AH → Option Out) → Bx OpF
  | none => dead
  | some f => .mk fun tm H _ => f (x tm) H
def oArgs1v (x : TM0 → AV) : Option (AV → AH → Option AV) → Bx OpF
  | none => dead
  | some f => .mk fun tm H _ => vO H (f (x tm) H)
def oArgs1p (x : TM0 → AV) : Option (AV → Option AV) → Bx OpF
  | none => dead
  | some f => .mk fun tm H _ => vO H (f (x tm))
def oArgs2 (x y : TM0 → AV) : Option (AV → AV → AH → Option Nat → Option Out) → Bx OpF
  | none => dead
  | some f => .mk fun tm H at_ => f (x tm) (y tm) H at_
def oArgs2d (x y : TM0 → AV) : Option (AV → AV → AH → Option Out) → Bx OpF
  | none => dead
  | some f => .mk fun tm H _ => f (x tm) (y tm) H

def builtinF (P : Program) (b : Builtin) (ts : List TypeId) (args : List Operand) : Bx OpF :=
  match b, ts, args with
  | .append, st :: xt :: _, [s, x] => bx (opdB s) fun s => bx (opdB x) fun x => oArgs2 s x (appendF P st xt)
  | .copy, dt :: _, [d, s] => bx (opdB d) fun d => bx (opdB s) fun s => oArgs2 d s (copyF P dt)
  | .clear, t :: _, [x] => bx (opdB x) fun x => oArgs1 x (clearF P t)
  | .delete, t :: _, [m, k] => bx (opdB m) fun m => bx (opdB k) fun k => oArgs2d m k (deleteF P t)
  | .len, t :: _, [x] => bx (opdB x) fun x => oArgs1v x (lenF P t)
  | .cap, t :: _, [x] => bx (opdB x) fun x => oArgs1p x (capF P t)
  | .min, _, xs => oFold min2A xs
  | .max, _, xs => oFold max2A xs
  | _, _, _ => dead

/-! Calls. -/

def followA (P : Program) : List FieldStep → TypeId → AV → Option (TypeId × AV)
  | [], t, v => some (t, v)
  | s :: rest, _, v => br s.deref none (ob (fieldOf P s.struct s.index) fun fd => match partF (aggT P fd.type) with
      | none => none
      | some part => ob (fieldA fd.offset part v) fun x => followA P rest fd.type x)
  termination_by structural l => l

def methodA (P : Program) (t : TypeId) (name : String) (v : AV) : Option (FuncId × AV) :=
  ob (P.info? t) fun i => ob (i.methods.find? (·.name == name)) fun m => ob2 (followA P m.path.toList t v) fun xt x =>
    match m.func, P.underlying xt with
        | some (f, true), some (.pointer _) => some (f, x)
        | some (_, false), some (.pointer _) => none
        | some (f, false), some _ => some (f, x)
        | _, _ => none

def hasBody (P : Program) (f : FuncId) : Bool := match P.funcs[f]? with
  | some fn => and fn.body.isSome (not (fn.name == "runtime.NumGoroutine"))
  | none => false

def callV (args : List AV) : AV → Option Out
  | .fn (.func g) first cap => some (.enter g (first ++ args ++ cap))
  | .yld l => some (.round l args)
  | _ => none

def callI (P : Program) (name : String) (args : List AV) : AV → Option Out
  | .iface t v => ob2 (methodA P t name v) fun f x => some (.enter f (x :: args))
  | _ => none

def oCall (P : Program) (c : Call) : Bx OpF := match c.callee with
  | .builtin b => builtinF P b c.argTypes.toList c.args.toList
  | .value (.func g) => bx (argsB c.args.toList) fun as => .mk fun tm _ _ => some (.enter g (as tm))
  | .value f => bx (argsB c.args.toList) fun as => bx (opdB f) fun f => .mk fun tm _ _ => callV (as tm) (f tm)
  | .invoke r name => bx (argsB c.args.toList) fun as => bx (opdB r) fun r => .mk fun tm _ _ => callI P name (as tm) (r tm)

def b1 (x : Operand) (f : (TM0 → AV) → Bx OpF) : Bx OpF := bx (opdB x) f
def b2 (x y : Operand) (f : (TM0 → AV) → (TM0 → AV) → Bx OpF) : Bx OpF := bx (opdB x) fun x => bx (opdB y) fun y => f x y
def b3 (x y z : Operand) (f : (TM0 → AV) → (TM0 → AV) → (TM0 → AV) → Bx OpF) : Bx OpF := bx (opdB x) fun x => bx (opdB y) fun y => bx (opdB z) fun z => f x y z

/-- What an operation does; all that hangs on the code alone is worked out ahead. -/
def aopF (P : Program) : Op → Bx OpF
  | .move x => b1 x oMove
  | .assign x => b1 x oMove
  | .pick c a b => b3 c a b oPick
  | .alloc e => oAlloc e (zeroA P e)
  | .box e x => b1 x (oBox e)
  | .build t ps => bx (partsB ps.toList) fun l => oBuild l (zeroA P t) (placesA P t)
  | .buildSlice t n ps => bx (partsB ps.toList) fun l => oBuildSlice n l (slT P t) (elT P)
  | .load t a => b1 a fun a => oLoad a (cellsQ (aggT P t)) (partF (aggT P t))
  | .store t a v => b2 a v fun a v => oStore a v (szOf P t)
  | .nilCheck x => b1 x oNilCheck
  | .binOp op t x y _ => b2 x y fun a b => oBin a b (binA P op t (isConst x) (isConst y))
  | .unOp op _ x => b1 x fun x => oUn x (unA op)
  | .convert s d x => b1 x fun x => oConv x (ckOf P s d)
  | .makeInterface t x => b1 x fun x => oIface t x (P.underlying t)
  | .makeFunc f first cap => bx (argsB first.toList) fun a => bx (argsB cap.toList) fun b => oFunc f a b
  | .makeMap _ r => oMap r
  | .makeSlice t l c => b2 l c fun l c => oMakeSlice P l c (slT P t)
  | .slice t x lo hi mx => b1 x fun x => oSlice x (opdO lo) (opdO hi) (opdO mx) hi.isSome mx.isSome (skOf P t)
  | .fieldAddr s x f => b1 x fun x => oFieldAddr x (fieldOff P s f)
  | .field s x f => b1 x fun x => oField P x (fieldOf P s f)
  | .indexAddr t x i => b2 x i fun x i => oIndexAddr x i (skOf P t)
  | .index t x i => b2 x i fun x i => oIndex x i (indexA P t)
  | .lookup t x i ok => b2 x i fun x i => oLookup P x i ok (mapT P t)
  | .mapUpdate t m k x => b3 m k x fun m k x => oMapUpdate P m k x (mapT P t)
  | .insert t m k x => b3 m k x fun m k x => oMapUpdate P m k x (mapT P t)
  | .typeAssert x _ t ok => b1 x fun x => oAssert P x t ok (P.underlying t)
  | .extract t i => b1 t fun t => oExtract t i
  | .call c => oCall P c
  | _ => dead

/-- All constants are such that can be read. -/
def aop (P : Program) (op : Op) : Bx OpF := br (allB (okOpd P) op.operands.toList) (aopF P op) dead

end
end Go.Ab
