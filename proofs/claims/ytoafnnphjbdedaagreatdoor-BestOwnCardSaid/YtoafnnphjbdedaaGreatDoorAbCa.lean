/- The operations over temporaries that are a function: as the evaluator's. -/
import Derived.Test.YtoafnnphjbdedaaGreatDoorAbZ
namespace Go.Ab
noncomputable section

/-! The temporaries, as a function. -/
abbrev TE := Nat → AV
abbrev OpE := TE → AH → Option Nat → Option Out
def opdBE : Operand → Bx (TE → AV)
  | .tmp t => .mk fun tm => tm t
  | .const v => @Option.rec AV (fun _ => Bx (TE → AV)) (.mk fun _ => undefA) (fun v => .mk fun _ => v) (ofVal v)
  | .global g => .mk fun _ => .ptr (some (g, 0))
  | .func f => .mk fun _ => .fn (.func f) [] []
def argsBE (l : List Operand) : Bx (TE → List AV) :=
  @List.rec Operand (fun _ => Bx (TE → List AV)) (.mk fun _ => []) (fun x _ ih => bx (opdBE x) fun a => bx ih fun r => .mk fun tm => a tm :: r tm) l
def partsBE (l : List (Nat × Operand)) : Bx (TE → List (Nat × AV)) :=
  @List.rec (Nat × Operand) (fun _ => Bx (TE → List (Nat × AV))) (.mk fun _ => []) (fun x _ ih => bx (opdBE x.2) fun a => bx ih fun r => .mk fun tm => (x.1, a tm) :: r tm) l
def deadE : Bx OpE := .mk fun _ _ _ => none
def oMoveE (x : TE → AV) : Bx OpE := .mk fun tm H _ => some (.val (x tm) H)
def oPickE (c a b : TE → AV) : Bx OpE := .mk fun tm H _ => vO H (pickA (c tm) (a tm) (b tm))
def oAllocE (e : TypeId) : Option AV → Bx OpE
  | none => deadE
  | some z => br (allB AV.one z.parts) (.mk fun _ H at_ => newVar e z.parts H at_) deadE
def oBoxE (e : TypeId) (x : TE → AV) : Bx OpE := .mk fun tm H at_ => br (allB AV.one (x tm).parts) (newVar e (x tm).parts H at_) none
def oBuildE (ps : TE → List (Nat × AV)) : Option AV → Option (Nat → Option (Nat × Nat)) → Bx OpE
  | some z, some pl => .mk fun tm H _ => vO H (ob (fillA pl (ps tm) z.parts) fun cs => some (.agg cs))
  | _, _ => deadE
def oBuildSliceE (n : Nat) (ps : TE → List (Nat × AV)) : Option TypeId → (TypeId → Option (Nat × List AV)) → Bx OpE
  | none => fun _ => deadE
  | some e => fun el => match el e with
    | none => deadE
    | some (sz, z) => br (Nat.ble (n * sz) 16777216)
        (.mk fun tm H at_ => br (allB (fun x : Nat × AV => allB AV.one x.2.parts) (ps tm)) (ob (fillA (fun i => some (i * sz, sz)) (ps tm) (reps n z)) fun cs => newSlice e cs n n H at_) none) deadE
def oLoadE (a : TE → AV) (n : Nat) : Option (List AV → Nat → Option AV) → Bx OpE
  | none => deadE
  | some part => .mk fun tm H _ => onPtr none (fun b o => vO H (ob (rowTo none H b (fun cs => part cs o) fun f => ob (roList f o n) fun l => part l 0) clearA)) (a tm)
def oStoreE (a v : TE → AV) : Option Nat → Bx OpE
  | none => deadE
  | some n => .mk fun tm H _ => onPtr none (fun b o => br (lenN (v tm).parts n) (br (allB AV.one (v tm).parts) (sO (writeA H b o (v tm).parts)) none) none) (a tm)
def oNilCheckE (x : TE → AV) : Bx OpE := .mk fun tm H _ => br (nilOk (x tm)) (some (.val (x tm) H)) none
def oBinE (x y : TE → AV) (f : Bx (AV → AV → Option AV)) : Bx OpE := bx f fun f => .mk fun tm H _ => vO H (f (x tm) (y tm))
def oUnE (x : TE → AV) : Option (AV → Option AV) → Bx OpE
  | none => deadE
  | some f => .mk fun tm H _ => vO H (f (x tm))
def opdOE : Option Operand → Bx (TE → Option AV)
  | none => .mk fun _ => none
  | some x => bx (opdBE x) fun a => .mk fun tm => some (a tm)
def oSliceE (x : TE → AV) (lo hi mx : Bx (TE → Option AV)) (hasHi hasMx : Bool) : Option SK → Bx OpE
  | none => deadE
  | some k => bx lo fun lo => bx hi fun hi => bx mx fun mx => bx (sliceA hasHi hasMx k) fun f => .mk fun tm H _ => vO H (f (x tm) (lo tm) (hi tm) (mx tm))
def oFieldAddrE (x : TE → AV) : Option Nat → Bx OpE
  | none => deadE
  | some off => .mk fun tm H _ => onPtr none (fun b o => some (.val (.ptr (some (b, Nat.add o off))) H)) (x tm)
def oFieldE (P : Program) (x : TE → AV) : Option Field → Bx OpE
  | none => deadE
  | some fd => match partF (aggT P fd.type) with
    | none => deadE
    | some part => .mk fun tm H _ => vO H (fieldA fd.offset part (x tm))
def oIndexAddrE (x i : TE → AV) : Option SK → Bx OpE
  | some (.arr n sz) => .mk fun tm H _ => vO H (idxArr n sz (x tm) (i tm))
  | some (.sl sz) => .mk fun tm H _ => vO H (idxSl sz (x tm) (i tm))
  | _ => deadE
def oIndexE (x i : TE → AV) : Option (AV → AV → Option AV) → Bx OpE
  | none => deadE
  | some f => .mk fun tm H _ => vO H (f (x tm) (i tm))
def oMakeSliceE (P : Program) (l c : TE → AV) : Option TypeId → Bx OpE
  | none => deadE
  | some e => match elT P e, byOf P e with
    | some (sz, z), some by_ => .mk fun tm H at_ => match l tm, c tm with
      | .int _ l, .int _ c => br (Nat.blt 0 sz) (ob (natZ l) fun l => ob (natZ c) fun c => br (Nat.ble l c) (br (Nat.ble (Nat.mul by_ c) 281474976710656) (br (Nat.ble c 4611686018427387904) (newSlice e (reps c z) l c H at_) none) none) none) none
      | _, _ => none
    | _, _ => deadE
def oConvE (x : TE → AV) : Option CK → Bx OpE
  | none => deadE
  | some (.int k) => .mk fun tm H _ => match x tm with
    | .int _ n => some (.val (.int k (wrapZ k n)) H)
    | _ => none
  | some .str => .mk fun tm H _ => match x tm with
    | .str s => some (.val (.str s) H)
    | _ => none
  | some (.bytes e) => .mk fun tm H at_ => match x tm with
    | .str s => H.newTo at_ (.cells e (s.map fun b => .int .u8 b.toNat)) fun b H' => some (.val (.slice (some (b, 0)) s.length s.length false) H')
    | _ => none
  | some (.same e) => .mk fun tm H _ => match x tm with
    | .slice (some (b, o)) len cap ex => cellsTo none H b fun t _ => br (Nat.beq t e) (some (.val (.slice (some (b, o)) len cap ex) H)) none
    | _ => none
  | some .text => .mk fun tm H _ => match x tm with
    | .str _ => none
    | v => ob (lenA v) fun n => ob (sliceCells H 1 n v) fun cs => ob (allM byteOfA cs) fun bs => some (.val (.str bs) H)
def oIfaceE (t : TypeId) (x : TE → AV) : Option TypeDesc → Bx OpE
  | none => deadE
  | some (.interface _) => deadE
  | some _ => .mk fun tm H _ => some (.val (.iface t (x tm)) H)
def oFuncE (f : Fn) (first cap : TE → List AV) : Bx OpE := match f with
  | .yield _ => deadE
  | f => .mk fun tm H _ => some (.val (.fn f (first tm) (cap tm)) H)
def oMapE : Option Operand → Bx OpE
  | none => .mk fun _ H at_ => H.newTo at_ (.mp [] 0) fun b H' => some (.val (.map (some b)) H')
  | some _ => deadE
def oLookupE (P : Program) (m k : TE → AV) (ok : Bool) : Option (TypeId × TypeId) → Bx OpE
  | none => deadE
  | some (kt, et) => match keyT P kt, zeroA P et with
    | some kok, some z => .mk fun tm H _ => br (kok (k tm)) (vO H (entriesTo H (fun es => ob (findA (k tm) es 0) fun r =>
        some (@Option.rec (Nat × AV) (fun _ => AV) (br ok (.tup [z, .bool false]) z) (fun x => br ok (.tup [x.2, .bool true]) x.2) r)) (m tm))) none
    | _, _ => deadE
def oMapUpdateE (P : Program) (m k v : TE → AV) : Option (TypeId × TypeId) → Bx OpE
  | none => deadE
  | some (kt, _) => match keyT P kt with
    | some kok => .mk fun tm H _ => br (kok (k tm)) (match m tm with
      | .map (some b) => sO (mapPut H b (k tm) (v tm))
      | _ => none) none
    | none => deadE
def oAssertE (P : Program) (x : TE → AV) (t : TypeId) (ok : Bool) : Option TypeDesc → Bx OpE
  | none => deadE
  | some (.interface want) => .mk fun tm H _ => match x tm with
    | .nilIface => vO H (failT ok (zeroA P t))
    | .iface u v => ob (P.info? u) fun i => br (hasAllM want i.methods) (some (.val (holdT ok (.iface u v)) H)) (vO H (failT ok (zeroA P t)))
    | _ => none
  | some _ => .mk fun tm H _ => match x tm with
    | .nilIface => vO H (failT ok (zeroA P t))
    | .iface u v => br (Nat.beq u t) (some (.val (holdT ok v) H)) (vO H (failT ok (zeroA P t)))
    | _ => none
def oExtractE (t : TE → AV) (i : Nat) : Bx OpE := .mk fun tm H _ => vO H (extractA i (t tm))
def oFoldE (f : AV → AV → Option AV) (args : List Operand) : Bx OpE := match args with
  | [x, y] => bx (opdBE x) fun x => bx (opdBE y) fun y => .mk fun tm H _ => vO H (f (x tm) (y tm))
  | x :: xs => bx (opdBE x) fun x => bx (argsBE xs) fun xs => .mk fun tm H _ => vO H (foldA f (x tm) (xs tm))
  | [] => deadE
def oArgs1E (x : TE → AV) : Option (AV → AH → Option Out) → Bx OpE
  | none => deadE
  | some f => .mk fun tm H _ => f (x tm) H
def oArgs1vE (x : TE → AV) : Option (AV → AH → Option AV) → Bx OpE
  | none => deadE
  | some f => .mk fun tm H _ => vO H (f (x tm) H)
def oArgs1pE (x : TE → AV) : Option (AV → Option AV) → Bx OpE
  | none => deadE
  | some f => .mk fun tm H _ => vO H (f (x tm))
def oArgs2E (x y : TE → AV) : Option (AV → AV → AH → Option Nat → Option Out) → Bx OpE
  | none => deadE
  | some f => .mk fun tm H at_ => f (x tm) (y tm) H at_
def oArgs2dE (x y : TE → AV) : Option (AV → AV → AH → Option Out) → Bx OpE
  | none => deadE
  | some f => .mk fun tm H _ => f (x tm) (y tm) H
def builtinFE (P : Program) (b : Builtin) (ts : List TypeId) (args : List Operand) : Bx OpE :=
  match b, ts, args with
  | .append, st :: xt :: _, [s, x] => bx (opdBE s) fun s => bx (opdBE x) fun x => oArgs2E s x (appendF P st xt)
  | .copy, dt :: _, [d, s] => bx (opdBE d) fun d => bx (opdBE s) fun s => oArgs2E d s (copyF P dt)
  | .clear, t :: _, [x] => bx (opdBE x) fun x => oArgs1E x (clearF P t)
  | .delete, t :: _, [m, k] => bx (opdBE m) fun m => bx (opdBE k) fun k => oArgs2dE m k (deleteF P t)
  | .len, t :: _, [x] => bx (opdBE x) fun x => oArgs1vE x (lenF P t)
  | .cap, t :: _, [x] => bx (opdBE x) fun x => oArgs1pE x (capF P t)
  | .min, _, xs => oFoldE min2A xs
  | .max, _, xs => oFoldE max2A xs
  | _, _, _ => deadE
def oCallE (P : Program) (c : Call) : Bx OpE := match c.callee with
  | .builtin b => builtinFE P b c.argTypes.toList c.args.toList
  | .value (.func g) => bx (argsBE c.args.toList) fun as => .mk fun tm _ _ => some (.enter g (as tm))
  | .value f => bx (argsBE c.args.toList) fun as => bx (opdBE f) fun f => .mk fun tm _ _ => callV (as tm) (f tm)
  | .invoke r name => bx (argsBE c.args.toList) fun as => bx (opdBE r) fun r => .mk fun tm _ _ => callI P name (as tm) (r tm)
def b1E (x : Operand) (f : (TE → AV) → Bx OpE) : Bx OpE := bx (opdBE x) f
def b2E (x y : Operand) (f : (TE → AV) → (TE → AV) → Bx OpE) : Bx OpE := bx (opdBE x) fun x => bx (opdBE y) fun y => f x y
def b3E (x y z : Operand) (f : (TE → AV) → (TE → AV) → (TE → AV) → Bx OpE) : Bx OpE := bx (opdBE x) fun x => bx (opdBE y) fun y => bx (opdBE z) fun z => f x y z
def aopFE (P : Program) : Op → Bx OpE
  | .move x => b1E x oMoveE
  | .assign x => b1E x oMoveE
  | .pick c a b => b3E c a b oPickE
  | .alloc e => oAllocE e (zeroA P e)
  | .box e x => b1E x (oBoxE e)
  | .build t ps => bx (partsBE ps.toList) fun l => oBuildE l (zeroA P t) (placesA P t)
  | .buildSlice t n ps => bx (partsBE ps.toList) fun l => oBuildSliceE n l (slT P t) (elT P)
  | .load t a => b1E a fun a => oLoadE a (cellsQ (aggT P t)) (partF (aggT P t))
  | .store t a v => b2E a v fun a v => oStoreE a v (szOf P t)
  | .nilCheck x => b1E x oNilCheckE
  | .binOp op t x y _ => b2E x y fun a b => oBinE a b (binA P op t (isConst x) (isConst y))
  | .unOp op _ x => b1E x fun x => oUnE x (unA op)
  | .convert s d x => b1E x fun x => oConvE x (ckOf P s d)
  | .makeInterface t x => b1E x fun x => oIfaceE t x (P.underlying t)
  | .makeFunc f first cap => bx (argsBE first.toList) fun a => bx (argsBE cap.toList) fun b => oFuncE f a b
  | .makeMap _ r => oMapE r
  | .makeSlice t l c => b2E l c fun l c => oMakeSliceE P l c (slT P t)
  | .slice t x lo hi mx => b1E x fun x => oSliceE x (opdOE lo) (opdOE hi) (opdOE mx) hi.isSome mx.isSome (skOf P t)
  | .fieldAddr s x f => b1E x fun x => oFieldAddrE x (fieldOff P s f)
  | .field s x f => b1E x fun x => oFieldE P x (fieldOf P s f)
  | .indexAddr t x i => b2E x i fun x i => oIndexAddrE x i (skOf P t)
  | .index t x i => b2E x i fun x i => oIndexE x i (indexA P t)
  | .lookup t x i ok => b2E x i fun x i => oLookupE P x i ok (mapT P t)
  | .mapUpdate t m k x => b3E m k x fun m k x => oMapUpdateE P m k x (mapT P t)
  | .insert t m k x => b3E m k x fun m k x => oMapUpdateE P m k x (mapT P t)
  | .typeAssert x _ t ok => b1E x fun x => oAssertE P x t ok (P.underlying t)
  | .extract t i => b1E t fun t => oExtractE t i
  | .call c => oCallE P c
  | _ => deadE
def aopE (P : Program) (op : Op) : Bx OpE := br (allB (okOpd P) op.operands.toList) (aopFE P op) deadE

/-! They are the same. -/
section
variable {P : Program} {a : TE} {tm : TM0} {H : AH} {at_ : Option Nat}
theorem opdE_val (ht : ∀ i, a i = tm.get i) (x : Operand) : (opdBE x).val a = (opdB x).val tm := by
  cases x with
  | tmp t => exact ht t
  | const v =>
    show (@Option.rec AV (fun _ => Bx (TE → AV)) (.mk fun _ => undefA) (fun v => .mk fun _ => v) (ofVal v)).val a = (@Option.rec AV (fun _ => Bx (TM0 → AV)) (.mk fun _ => undefA) (fun v => .mk fun _ => v) (ofVal v)).val tm
    cases ofVal v <;> rfl
  | global g => rfl
  | func f => rfl
theorem argsE_val (ht : ∀ i, a i = tm.get i) : ∀ l : List Operand, (argsBE l).val a = (argsB l).val tm
  | [] => rfl
  | x :: l => by
    have e1 : argsBE (x :: l) = bx (opdBE x) fun a => bx (argsBE l) fun r => .mk fun tm => a tm :: r tm := rfl
    have e2 : argsB (x :: l) = bx (opdB x) fun a => bx (argsB l) fun r => .mk fun tm => a tm :: r tm := rfl
    rw [e1, e2]; simp only [bx_eq, val_mk, opdE_val ht, argsE_val ht l]
theorem partsE_val (ht : ∀ i, a i = tm.get i) : ∀ l : List (Nat × Operand), (partsBE l).val a = (partsB l).val tm
  | [] => rfl
  | x :: l => by
    have e1 : partsBE (x :: l) = bx (opdBE x.2) fun a => bx (partsBE l) fun r => .mk fun tm => (x.1, a tm) :: r tm := rfl
    have e2 : partsB (x :: l) = bx (opdB x.2) fun a => bx (partsB l) fun r => .mk fun tm => (x.1, a tm) :: r tm := rfl
    rw [e1, e2]; simp only [bx_eq, val_mk, opdE_val ht, partsE_val ht l]
theorem opdOE_val (ht : ∀ i, a i = tm.get i) (x : Option Operand) : (opdOE x).val a = (opdO x).val tm := by
  cases x with
  | none => rfl
  | some x => simp only [opdOE, opdO, bx_eq, val_mk, opdE_val ht]

theorem aopE_val (ht : ∀ i, a i = tm.get i) (op : Op) : (aopE P op).val a H at_ = (aop P op).val tm H at_ := by
  unfold aopE aop
  rw [br_eq, br_eq]
  split
  case isFalse => rfl
  cases op with
  | move x => simp only [aopFE, aopF, b1E, b1, bx_eq, oMoveE, oMove, val_mk, opdE_val ht]
  | assign x => simp only [aopFE, aopF, b1E, b1, bx_eq, oMoveE, oMove, val_mk, opdE_val ht]
  | pick c x y => simp only [aopFE, aopF, b3E, b3, bx_eq, oPickE, oPick, val_mk, opdE_val ht]
  | alloc e =>
    simp only [aopFE, aopF, oAllocE, oAlloc]
    cases zeroA P e with
    | none => rfl
    | some z => simp only [br_eq]; split <;> rfl
  | box e x => simp only [aopFE, aopF, b1E, b1, bx_eq, oBoxE, oBox, val_mk, opdE_val ht]
  | build t ps =>
    simp only [aopFE, aopF, bx_eq]
    cases zeroA P t <;> cases placesA P t <;> first | rfl | simp only [oBuildE, oBuild, val_mk, partsE_val ht]
  | buildSlice t n ps =>
    simp only [aopFE, aopF, bx_eq]
    cases slT P t with
    | none => rfl
    | some e =>
      simp only [oBuildSliceE, oBuildSlice]
      cases elT P e with
      | none => rfl
      | some p => simp only [br_eq]; split <;> first | rfl | simp only [val_mk, partsE_val ht]
  | load t x => simp only [aopFE, aopF, b1E, b1, bx_eq]; cases partF (aggT P t) <;> simp only [oLoadE, oLoad, val_mk, opdE_val ht] <;> try rfl
  | store t x y => simp only [aopFE, aopF, b2E, b2, bx_eq]; cases szOf P t <;> simp only [oStoreE, oStore, val_mk, opdE_val ht] <;> try rfl
  | nilCheck x => simp only [aopFE, aopF, b1E, b1, bx_eq, oNilCheckE, oNilCheck, val_mk, opdE_val ht]
  | binOp o t x y u => simp only [aopFE, aopF, b2E, b2, bx_eq, oBinE, oBin, val_mk, opdE_val ht]
  | unOp o t x => simp only [aopFE, aopF, b1E, b1, bx_eq]; cases unA o <;> simp only [oUnE, oUn, val_mk, opdE_val ht] <;> try rfl
  | convert s d x =>
    simp only [aopFE, aopF, b1E, b1, bx_eq]
    cases ckOf P s d with
    | none => rfl
    | some k => cases k <;> simp only [oConvE, oConv, val_mk, opdE_val ht] <;> try rfl
  | makeInterface t x =>
    simp only [aopFE, aopF, b1E, b1, bx_eq]
    cases P.underlying t with
    | none => rfl
    | some d => cases d <;> simp only [oIfaceE, oIface, val_mk, opdE_val ht] <;> try rfl
  | makeFunc f x y =>
    simp only [aopFE, aopF, bx_eq]
    cases f <;> simp only [oFuncE, oFunc, val_mk, argsE_val ht] <;> try rfl
  | makeMap t r => simp only [aopFE, aopF]; cases r <;> rfl
  | makeSlice t l c =>
    simp only [aopFE, aopF, b2E, b2, bx_eq]
    cases slT P t with
    | none => rfl
    | some e =>
      simp only [oMakeSliceE, oMakeSlice]
      cases elT P e with
      | none => rfl
      | some p => cases byOf P e <;> simp only [val_mk, opdE_val ht] <;> try rfl
  | slice t x lo hi mx =>
    simp only [aopFE, aopF, b1E, b1, bx_eq]
    cases skOf P t <;> simp only [oSliceE, oSlice, bx_eq, val_mk, opdE_val ht, opdOE_val ht] <;> try rfl
  | fieldAddr s x f => simp only [aopFE, aopF, b1E, b1, bx_eq]; cases fieldOff P s f <;> simp only [oFieldAddrE, oFieldAddr, val_mk, opdE_val ht] <;> try rfl
  | field s x f =>
    simp only [aopFE, aopF, b1E, b1, bx_eq]
    cases fieldOf P s f with
    | none => rfl
    | some fd => simp only [oFieldE, oField]; cases partF (aggT P fd.type) <;> simp only [val_mk, opdE_val ht] <;> try rfl
  | indexAddr t x i =>
    simp only [aopFE, aopF, b2E, b2, bx_eq]
    cases skOf P t with
    | none => rfl
    | some k => cases k <;> simp only [oIndexAddrE, oIndexAddr, val_mk, opdE_val ht] <;> try rfl
  | index t x i => simp only [aopFE, aopF, b2E, b2, bx_eq]; cases indexA P t <;> simp only [oIndexE, oIndex, val_mk, opdE_val ht] <;> try rfl
  | lookup t x i ok =>
    simp only [aopFE, aopF, b2E, b2, bx_eq]
    cases mapT P t with
    | none => rfl
    | some p => simp only [oLookupE, oLookup]; cases keyT P p.1 <;> cases zeroA P p.2 <;> simp only [val_mk, opdE_val ht] <;> try rfl
  | mapUpdate t m k x =>
    simp only [aopFE, aopF, b3E, b3, bx_eq]
    cases mapT P t with
    | none => rfl
    | some p => simp only [oMapUpdateE, oMapUpdate]; cases keyT P p.1 <;> simp only [val_mk, opdE_val ht] <;> try rfl
  | insert t m k x =>
    simp only [aopFE, aopF, b3E, b3, bx_eq]
    cases mapT P t with
    | none => rfl
    | some p => simp only [oMapUpdateE, oMapUpdate]; cases keyT P p.1 <;> simp only [val_mk, opdE_val ht] <;> try rfl
  | typeAssert x u t ok =>
    simp only [aopFE, aopF, b1E, b1, bx_eq]
    cases P.underlying t with
    | none => rfl
    | some d => cases d <;> simp only [oAssertE, oAssert, val_mk, opdE_val ht] <;> try rfl
  | extract t i => simp only [aopFE, aopF, b1E, b1, bx_eq, oExtractE, oExtract, val_mk, opdE_val ht]
  | call c =>
    simp only [aopFE, aopF]
    obtain ⟨callee, args, ts⟩ := c
    have fold : ∀ (f : AV → AV → Option AV) (l : List Operand), (oFoldE f l).val a H at_ = (oFold f l).val tm H at_ := by
      intro f l
      rcases l with _ | ⟨x, _ | ⟨y, _ | ⟨z, l⟩⟩⟩ <;> simp only [oFoldE, oFold, bx_eq, val_mk, opdE_val ht, argsE_val ht] <;> try rfl
    have bi : ∀ (b : Builtin) (ts : List TypeId) (args : List Operand), (builtinFE P b ts args).val a H at_ = (builtinF P b ts args).val tm H at_ := by
      intro b ts args
      unfold builtinFE builtinF
      split
      · simp only [bx_eq]; generalize appendF P _ _ = f; cases f <;> simp only [oArgs2E, oArgs2, val_mk, opdE_val ht] <;> try rfl
      · simp only [bx_eq]; generalize copyF P _ = f; cases f <;> simp only [oArgs2E, oArgs2, val_mk, opdE_val ht] <;> try rfl
      · simp only [bx_eq]; generalize clearF P _ = f; cases f <;> simp only [oArgs1E, oArgs1, val_mk, opdE_val ht] <;> try rfl
      · simp only [bx_eq]; generalize deleteF P _ = f; cases f <;> simp only [oArgs2dE, oArgs2d, val_mk, opdE_val ht] <;> try rfl
      · simp only [bx_eq]; generalize lenF P _ = f; cases f <;> simp only [oArgs1vE, oArgs1v, val_mk, opdE_val ht] <;> try rfl
      · simp only [bx_eq]; generalize capF P _ = f; cases f <;> simp only [oArgs1pE, oArgs1p, val_mk, opdE_val ht] <;> try rfl
      · exact fold _ _
      · exact fold _ _
      · split <;> first | rfl | (simp_all; done) | (exfalso; simp_all; rename_i hx; first | exact hx _ _ _ _ _ rfl rfl rfl rfl rfl | exact hx _ _ _ _ rfl rfl rfl rfl)
    unfold oCallE oCall
    cases callee with
    | builtin b => exact bi b _ _
    | value f =>
      cases f <;> simp only [bx_eq, val_mk, opdE_val ht, argsE_val ht]
    | invoke r name => simp only [bx_eq, val_mk, opdE_val ht, argsE_val ht]
  | _ => rfl
end
end
end Go.Ab
