/- The words of the printed functions: each operation, its types known. -/
import Derived.Test.YtoafnnphjbdedaaGreatDoorAbDa
namespace Go.Ab
noncomputable section

def w_pick (H : AH) (c a b : AV) : Option Out := vO H (pickA c a b)
def w_int (op : BinOp) (H : AH) (x y : AV) : Option Out := vO H ((binI' (binI op)).val x y)
def w_str (op : BinOp) (H : AH) (x y : AV) : Option Out := vO H ((binS' (binS op)).val x y)
def w_sh (op : BinOp) (H : AH) (x y : AV) : Option Out := vO H ((match shiftF op with
  | some f => onInts none fun k a _ b => f k a b
  | none => fun _ _ => none) x y)
def w_eq (P : Program) (op : BinOp) (t : TypeId) (cx cy : Bool) (H : AH) (x y : AV) : Option Out := vO H ((binE P t cx cy (eqOp op)).val x y)
def w_un (op : UnOp) (H : AH) (x : AV) : Option Out := match unA op with
  | some f => vO H (f x)
  | none => none
def w_load (q : Option Nat) (H : AH) (v : AV) : Option Out := (oLoad (fun _ => v) (cellsQ (some q)) (partF (some q))).val .leaf H none
def w_store (n : Nat) (H : AH) (p v : AV) : Option Out := (oStore (fun _ => p) (fun _ => v) (some n)).val .leaf H none
def w_alloc (e : TypeId) (cs : List AV) (H : AH) (at_ : Option Nat) : Option Out := newVar e cs H at_
def w_box (e : TypeId) (H : AH) (v : AV) (at_ : Option Nat) : Option Out := (oBox e (fun _ => v)).val .leaf H at_
def w_build (P : Program) (t : TypeId) (H : AH) (l : List (Nat × AV)) : Option Out := (oBuild (fun _ => l) (zeroA P t) (placesA P t)).val .leaf H none
def w_buildSlice (P : Program) (e : TypeId) (n : Nat) (H : AH) (l : List (Nat × AV)) (at_ : Option Nat) : Option Out := (oBuildSlice n (fun _ => l) (some e) (elT P)).val .leaf H at_
def w_nil (H : AH) (x : AV) : Option Out := (oNilCheck fun _ => x).val .leaf H none
def w_conv (k : CK) (H : AH) (x : AV) (at_ : Option Nat) : Option Out := (oConv (fun _ => x) (some k)).val .leaf H at_
def w_slice (k : SK) (hasHi hasMx : Bool) (H : AH) (x : AV) (lo hi mx : Option AV) : Option Out := vO H ((sliceA hasHi hasMx k).val x lo hi mx)
def w_fieldAddr (off : Nat) (H : AH) (x : AV) : Option Out := (oFieldAddr (fun _ => x) (some off)).val .leaf H none
def w_field (q : Option Nat) (off : Nat) (H : AH) (x : AV) : Option Out := match partF (some q) with
  | some part => vO H (fieldA off part x)
  | none => none
def w_indexAddr (k : SK) (H : AH) (x i : AV) : Option Out := (oIndexAddr (fun _ => x) (fun _ => i) (some k)).val .leaf H none
def w_index (P : Program) (t : TypeId) (H : AH) (x i : AV) : Option Out := (oIndex (fun _ => x) (fun _ => i) (indexA P t)).val .leaf H none
def w_makeSlice (P : Program) (e : TypeId) (H : AH) (l c : AV) (at_ : Option Nat) : Option Out := (oMakeSlice P (fun _ => l) (fun _ => c) (some e)).val .leaf H at_
def w_makeMap (H : AH) (at_ : Option Nat) : Option Out := (oMap none).val .leaf H at_
def w_lookup (P : Program) (kt et : TypeId) (ok : Bool) (H : AH) (m k : AV) : Option Out := (oLookup P (fun _ => m) (fun _ => k) ok (some (kt, et))).val .leaf H none
def w_mapUpdate (P : Program) (kt et : TypeId) (H : AH) (m k v : AV) : Option Out := (oMapUpdate P (fun _ => m) (fun _ => k) (fun _ => v) (some (kt, et))).val .leaf H none
def w_assert (P : Program) (t : TypeId) (ok : Bool) (H : AH) (x : AV) : Option Out := (oAssert P (fun _ => x) t ok (P.underlying t)).val .leaf H none
def w_extract (i : Nat) (H : AH) (x : AV) : Option Out := vO H (extractA i x)
def w_append (e sz by_ : Nat) (H : AH) (s x : AV) (at_ : Option Nat) : Option Out := ob2 (newCells sz x H) fun n new => appendTo e sz by_ s n new H at_
def w_appendZ (e sz by_ : Nat) (z : List AV) (H : AH) (s x : AV) (at_ : Option Nat) : Option Out := ob2 (newZeros by_ z x) fun n new => appendTo e sz by_ s n new H at_
def w_copy (P : Program) (dt : TypeId) (H : AH) (d s : AV) : Option Out := (oArgs2 (fun _ => d) (fun _ => s) (copyF P dt)).val .leaf H none
def w_clear (P : Program) (t : TypeId) (H : AH) (x : AV) : Option Out := (oArgs1 (fun _ => x) (clearF P t)).val .leaf H none
def w_delete (P : Program) (t : TypeId) (H : AH) (m k : AV) : Option Out := (oArgs2d (fun _ => m) (fun _ => k) (deleteF P t)).val .leaf H none
def w_len (P : Program) (t : TypeId) (H : AH) (x : AV) : Option Out := (oArgs1v (fun _ => x) (lenF P t)).val .leaf H none
def w_cap (P : Program) (t : TypeId) (H : AH) (x : AV) : Option Out := (oArgs1p (fun _ => x) (capF P t)).val .leaf H none
def w_min2 (H : AH) (x y : AV) : Option Out := vO H (min2A x y)
def w_max2 (H : AH) (x y : AV) : Option Out := vO H (max2A x y)
def w_min (H : AH) (x : AV) (l : List AV) : Option Out := vO H (foldA min2A x l)
def w_max (H : AH) (x : AV) (l : List AV) : Option Out := vO H (foldA max2A x l)

def resC (P : Program) (f : FuncId) : List ResultVar := match P.funcs[f]? with
  | some fn => fn.results.toList
  | none => []

/-- A code's part. -/
def subC (c : Code) (l : List Nat) : Code := @List.rec Nat (fun _ => Code → Code) (fun c => c) (fun i _ ih c => match c with
  | .seq a b => match i with
    | 0 => ih a
    | _ => ih b
  | .cond _ a b => match i with
    | 0 => ih a
    | _ => ih b
  | .block _ a => ih a
  | .loop a => ih a
  | c => c) l c
def bodyC (P : Program) (f : FuncId) : Code := match P.funcs[f]? with
  | some fn => match fn.body with
    | some c => c
    | none => .skip
  | none => .skip

/-- The order of a drawn region, as a number (for a tool). -/
def encIns (l : List Ins) : Nat := @List.rec Ins (fun _ => Nat) 1 (fun x _ ih => Nat.add (Nat.mul ih 65536) (match x with | .go i => 2 * i | .re i => 2 * i + 1)) l
def regOps (c : Code) (id : Nat) : Option (Array Oper) := @Code.rec (fun _ => Option (Array Oper)) none (fun i ops _ => br (Nat.beq i id) (some ops) none)
  (fun _ _ a b => @Option.rec _ (fun _ => Option (Array Oper)) b (fun x => some x) a) (fun _ _ _ a b => @Option.rec _ (fun _ => Option (Array Oper)) b (fun x => some x) a) (fun _ _ a => a) (fun _ a => a)
  (fun _ _ _ _ a b => @Option.rec _ (fun _ => Option (Array Oper)) b (fun x => some x) a) (fun _ => none) (fun _ a => a) (fun _ => none) (fun _ => none) none (fun _ => none) c
def encReg (P : Program) (f id : Nat) : Nat := match regOps (bodyC P f) id with
  | none => 0
  | some ops => match sched P ops with
    | none => 0
    | some l => encIns l

end
end Go.Ab
