/- The words, worked out on what is known. -/
import Derived.Test.YtoafnnphjbdedaaGreatDoorAbDb
namespace Go.Ab
variable {P : Program} {C : CW} {H : AH}

/-! Steps. -/
theorem st {out : Option Out} {v : AV} {H' : AH} {K : AV → AH → Prop} (h : out = some (.val v H')) (k : K v H') : outP C H out K := by subst h; exact k
theorem outP_val (v : AV) (H' : AH) (K : AV → AH → Prop) : outP C H (some (.val v H')) K = K v H' := rfl
theorem outP_skip (H' : AH) (K : AV → AH → Prop) : outP C H (some (.skip H')) K = K undefA H' := rfl
theorem outP_enter (f : FuncId) (l : List AV) (K : AV → AH → Prop) : outP C H (some (.enter f l)) K = C.call f l H K := rfl
theorem guardP_true (X : (AV → AH → Prop) → Prop) (K : AV → AH → Prop) : guardP true H X K = X K := rfl
theorem guardP_false (X : (AV → AH → Prop) → Prop) (K : AV → AH → Prop) : guardP false H X K = K undefA H := rfl
theorem condP_true (x y : Prop) : condP (.bool true) x y = x := rfl
theorem condP_false (x y : Prop) : condP (.bool false) x y = y := rfl
theorem condP_bool (b : Bool) (x y : Prop) : condP (.bool b) x y ↔ (b = true → x) ∧ (b = false → y) := by cases b <;> simp [condP]
theorem ckP_true (x : Prop) : ckP true x = x := rfl
theorem boolIs_bool (w b : Bool) : boolIs w (.bool b) = (b == w) := rfl
theorem boolIs_undef (w : Bool) : boolIs w undefA = false := rfl
theorem reC_val (v : AV) (H' : AH) (d : AV) : reC true (some (.val v H')) d = AV.beq v d := rfl
theorem reC_false (o : Option Out) (d : AV) : reC false o d = true := rfl

/-! Heaps. -/
noncomputable def AH.new (H : AH) (x : ABlk) : AH := ⟨H.tr.put H.next (some x), H.next + 1⟩
theorem newTo_none_eq {β : Type} (H : AH) (x : ABlk) (k : Nat → AH → β) : H.newTo none x k = k H.next (H.new x) := AH.newTo_none H x k
theorem get_new (H : AH) (x : ABlk) (b : Nat) : (H.new x).get b = if b = H.next then some x else H.get b := Tr.get_put _ _ _ _
theorem get_new_same (H : AH) (x : ABlk) : (H.new x).get H.next = some x := by rw [get_new, if_pos rfl]
theorem next_new (H : AH) (x : ABlk) : (H.new x).next = H.next + 1 := rfl
theorem get_more (H : AH) (n b : Nat) : (H.more n).get b = H.get b := rfl
theorem next_more (H : AH) (n : Nat) : (H.more n).next = H.next + n := rfl
theorem newTo_some_eq {β : Type} (H : AH) (b : Nat) (x : ABlk) (k : Nat → AH → β) : H.newTo (some b) x k = k b (H.put b (some x)) := AH.newTo_some H b x k

/-- Behind a call: what was there is there, but for some blocks. -/
structure Ext (mods : List Nat) (H H' : AH) : Prop where
  next : H.next ≤ H'.next
  same : ∀ b, b < H.next → b ∉ mods → H'.get b = H.get b
theorem Ext.refl (mods : List Nat) (H : AH) : Ext mods H H := ⟨Nat.le_refl _, fun _ _ _ => rfl⟩
theorem Ext.trans {m : List Nat} {H H1 H2 : AH} (h : Ext m H H1) (k : Ext m H1 H2) : Ext m H H2 :=
  ⟨Nat.le_trans h.next k.next, fun b hb hm => by rw [k.same b (Nat.lt_of_lt_of_le hb h.next) hm, h.same b hb hm]⟩
theorem Ext.mono {m m' : List Nat} {H H1 : AH} (h : Ext m H H1) (k : ∀ b ∈ m, b < H.next → b ∈ m') : Ext m' H H1 :=
  ⟨h.next, fun b hb hm => h.same b hb fun q => hm (k b q hb)⟩
theorem Ext.new {m : List Nat} {H H1 : AH} (h : Ext m H H1) (x : ABlk) : Ext m H (H1.new x) :=
  ⟨Nat.le_succ_of_le h.next, fun b hb hm => by rw [get_new, if_neg (by have := h.next; omega), h.same b hb hm]⟩
theorem Ext.more {m : List Nat} {H H1 : AH} (h : Ext m H H1) (n : Nat) : Ext m H (H1.more n) := ⟨by rw [next_more]; have := h.next; omega, h.same⟩
theorem Ext.put {m : List Nat} {H H1 : AH} (h : Ext m H H1) {b : Nat} (hb : H.next ≤ b ∨ b ∈ m) (x : Option ABlk) : Ext m H (H1.put b x) :=
  ⟨h.next, fun c hc hm => by
    rw [AH.get_put, if_neg]
    · exact h.same c hc hm
    · rintro rfl; rcases hb with hb | hb
      · omega
      · exact hm hb⟩
theorem Ext.get {m : List Nat} {H H1 : AH} (h : Ext m H H1) {b : Nat} (hb : b < H.next) (hm : b ∉ m) {x : ABlk} (hx : H.get b = some x) : H1.get b = some x := by rw [h.same b hb hm]; exact hx

/-! Numbers. -/
theorem vO_some (v : AV) : vO H (some v) = some (.val v H) := rfl
theorem wrap64_in {x : Int} (h1 : -9223372036854775808 ≤ x) (h2 : x ≤ 9223372036854775807) : IntKind.i64.wrap x = x := by
  refine wrap_of_fits ?_
  cases x with
  | ofNat m => simp only [fits, fitsS, Nat.blt_eq]; simp only [Int.ofNat_eq_natCast] at h2; omega
  | negSucc m => simp only [fits, fitsS, Nat.blt_eq]; omega
theorem wrap32_in {x : Int} (h1 : -2147483648 ≤ x) (h2 : x ≤ 2147483647) : IntKind.i32.wrap x = x := by
  refine wrap_of_fits ?_
  cases x with
  | ofNat m => simp only [fits, fitsS, Nat.blt_eq]; simp only [Int.ofNat_eq_natCast] at h2; omega
  | negSucc m => simp only [fits, fitsS, Nat.blt_eq]; omega
theorem w_int_of {op : BinOp} {f : IntKind → Int → Int → Option AV} (h : binI op = some f) (k : IntKind) (a b : Int) : w_int op H (.int k a) (.int k b) = vO H (f k a b) := by
  have hk : kEq k k = true := kEq_iff.2 rfl
  simp only [w_int, h, binI', val_mk, onInts, hk, br_true]
theorem w_add (k : IntKind) (a b : Int) : w_int .add H (.int k a) (.int k b) = some (.val (.int k (k.wrap (a + b))) H) := by
  rw [w_int_of rfl, wrapZ_eq]; rfl
theorem w_sub (k : IntKind) (a b : Int) : w_int .sub H (.int k a) (.int k b) = some (.val (.int k (k.wrap (a - b))) H) := by
  rw [w_int_of rfl, wrapZ_eq]; rfl
theorem w_mul (k : IntKind) (a b : Int) : w_int .mul H (.int k a) (.int k b) = some (.val (.int k (k.wrap (a * b))) H) := by
  rw [w_int_of rfl, wrapZ_eq]; rfl
theorem w_quo (k : IntKind) (a b : Int) (h : b ≠ 0) : w_int .quo H (.int k a) (.int k b) = some (.val (.int k (k.wrap (a.tdiv b))) H) := by
  have hb : eqZ b 0 = false := by rw [eqZ_eq]; simpa using h
  rw [w_int_of rfl, hb, br_false, wrapZ_eq]; rfl
theorem w_rem (k : IntKind) (a b : Int) (h : b ≠ 0) : w_int .rem H (.int k a) (.int k b) = some (.val (.int k (a.tmod b)) H) := by
  have hb : eqZ b 0 = false := by rw [eqZ_eq]; simpa using h
  rw [w_int_of rfl, hb, br_false]; rfl
theorem beq_dec (a b : Int) : (a == b) = decide (a = b) := by rw [Bool.eq_iff_iff]; simp
theorem w_eql (k : IntKind) (a b : Int) : w_int .eql H (.int k a) (.int k b) = some (.val (.bool (decide (a = b))) H) := by
  rw [w_int_of rfl, eqZ_eq, beq_dec]; rfl
theorem w_neq (k : IntKind) (a b : Int) : w_int .neq H (.int k a) (.int k b) = some (.val (.bool (!decide (a = b))) H) := by
  rw [w_int_of rfl, eqZ_eq, beq_dec]; rfl
theorem w_lss (k : IntKind) (a b : Int) : w_int .lss H (.int k a) (.int k b) = some (.val (.bool (decide (a < b))) H) := by
  rw [w_int_of rfl, ltZ_eq]; rfl
theorem w_leq (k : IntKind) (a b : Int) : w_int .leq H (.int k a) (.int k b) = some (.val (.bool (decide (a ≤ b))) H) := by
  rw [w_int_of rfl, leZ_eq]; rfl
theorem w_gtr (k : IntKind) (a b : Int) : w_int .gtr H (.int k a) (.int k b) = some (.val (.bool (decide (b < a))) H) := by
  rw [w_int_of rfl, ltZ_eq]; rfl
theorem w_geq (k : IntKind) (a b : Int) : w_int .geq H (.int k a) (.int k b) = some (.val (.bool (decide (b ≤ a))) H) := by
  rw [w_int_of rfl, leZ_eq]; rfl
theorem w_not (b : Bool) : w_un .not H (.bool b) = some (.val (.bool (!b)) H) := rfl
theorem w_neg (k : IntKind) (a : Int) : w_un .neg H (.int k a) = some (.val (.int k (k.wrap (-a))) H) := by
  simp only [w_un, unA, vO, ob_some, wrapZ_eq]
  congr 4; show Int.sub 0 a = _; exact Int.zero_sub a
theorem w_pick_b (b : Bool) (x y : AV) : w_pick H (.bool b) x y = some (.val (if b then x else y) H) := by cases b <;> rfl
theorem w_cint (k q : IntKind) (a : Int) (at_ : Option Nat) : w_conv (.int k) H (.int q a) at_ = some (.val (.int k (k.wrap a)) H) := by
  simp [w_conv, oConv]
theorem w_min2_int (k : IntKind) (a b : Int) : w_min2 H (.int k a) (.int k b) = some (.val (.int k (min a b)) H) := by
  simp only [w_min2, min2A, onInts, vO, ltZ_eq, br_eq, ob_some]
  congr 3; by_cases h : b < a <;> simp [h] <;> omega
theorem w_max2_int (k : IntKind) (a b : Int) : w_max2 H (.int k a) (.int k b) = some (.val (.int k (max a b)) H) := by
  simp only [w_max2, max2A, onInts, vO, ltZ_eq, br_eq, ob_some]
  congr 3; by_cases h : a < b <;> simp [h] <;> omega

/-! Memory. -/
theorem w_box_one {e : TypeId} {v : AV} (h : v.parts.all AV.one = true) : w_box e H v none = some (.val (.ptr (some (H.next, 0))) (H.new (.cells e v.parts))) := by
  simp only [w_box, oBox, val_mk, allB_eq, h, br_true, newVar, newTo_none_eq]
theorem w_box_at {e : TypeId} {v : AV} {b : Nat} (h : v.parts.all AV.one = true) : w_box e H v (some b) = some (.val (.ptr (some (b, 0))) (H.put b (some (.cells e v.parts)))) := by
  simp only [w_box, oBox, val_mk, allB_eq, h, br_true, newVar, newTo_some_eq]
theorem w_alloc_none (e : TypeId) (cs : List AV) : w_alloc e cs H none = some (.val (.ptr (some (H.next, 0))) (H.new (.cells e cs))) := by
  simp only [w_alloc, newVar, newTo_none_eq]
theorem w_alloc_at (e : TypeId) (cs : List AV) (b : Nat) : w_alloc e cs H (some b) = some (.val (.ptr (some (b, 0))) (H.put b (some (.cells e cs)))) := by
  simp only [w_alloc, newVar, newTo_some_eq]
theorem w_fieldAddr_ptr (off b o : Nat) : w_fieldAddr off H (.ptr (some (b, o))) = some (.val (.ptr (some (b, o + off))) H) := rfl
theorem w_load_cell {b o : Nat} {e : TypeId} {cs : List AV} {v : AV} (h : H.get b = some (.cells e cs)) (hv : cs[o]? = some v) (hk : v.known = true) (hn : ∀ l, v ≠ .agg l) : w_load none H (.ptr (some (b, o))) = some (.val v H) := by
  have hc : clearA v = some v := by
    cases v <;> first | rfl | (cases hk; done) | exact absurd rfl (hn _)
  simp only [w_load, oLoad, partF, val_mk, onPtr, rowTo, h, nthO_eq, hv, ob_some, hc, vO]
theorem w_load_agg {b o n : Nat} {e : TypeId} {cs : List AV} {l : List AV} (h : H.get b = some (.cells e cs)) (ho : o + n ≤ cs.length) (hv : (cs.drop o).take n = l) (hk : l.all AV.known = true) : w_load (some n) H (.ptr (some (b, o))) = some (.val (.agg l) H) := by
  have hc : clearA (.agg l) = some (.agg l) := by simp [clearA, allB_eq, hk]
  simp only [w_load, oLoad, partF, val_mk, onPtr, rowTo, h, cut_eq, if_pos ho, hv, ob_some, hc, vO]
theorem roList_of {f : Nat → Option AV} : ∀ {n o : Nat} {l : List AV}, l.length = n → (∀ i x, l[i]? = some x → f (o + i) = some x) → roList f o n = some l
  | 0, o, l, h, _ => by rw [List.length_eq_zero_iff.1 h]; rfl
  | n + 1, o, [], h, _ => by simp at h
  | n + 1, o, x :: l, h, hf => by
    show ob (f o) (fun x => ob (roList f (o + 1) n) fun l => some (x :: l)) = _
    rw [show f o = some x from hf 0 x rfl, ob_some, roList_of (l := l) (by simpa using h) (fun i y hy => by rw [← hf (i + 1) y (by simpa using hy)]; congr 1; omega), ob_some]
theorem w_load_ro {b o : Nat} {ob' : Obj} {f : Nat → Option AV} {v : AV} (h : H.get b = some (.ro ob' f)) (hv : f o = some v) (hk : v.known = true) (hn : ∀ l, v ≠ .agg l) : w_load none H (.ptr (some (b, o))) = some (.val v H) := by
  have hc : clearA v = some v := by
    cases v <;> first | rfl | (cases hk; done) | exact absurd rfl (hn _)
  have hr : roList f o 1 = some [v] := roList_of rfl fun i x hx => by
    cases i with
    | zero => simp at hx; subst hx; exact hv
    | succ i => simp at hx
  simp only [w_load, oLoad, partF, val_mk, onPtr, rowTo, h, cellsQ, hr, ob_some, nthO_eq, List.getElem?_cons_zero, hc, vO]
theorem w_load_ro_agg {b o n : Nat} {ob' : Obj} {f : Nat → Option AV} {l : List AV} (h : H.get b = some (.ro ob' f)) (hl : l.length = n) (hv : ∀ i x, l[i]? = some x → f (o + i) = some x) (hk : l.all AV.known = true) : w_load (some n) H (.ptr (some (b, o))) = some (.val (.agg l) H) := by
  have hc : clearA (.agg l) = some (.agg l) := by simp [clearA, allB_eq, hk]
  have hr := roList_of (f := f) (o := o) hl hv
  simp only [w_load, oLoad, partF, val_mk, onPtr, rowTo, h, cellsQ, hr, ob_some, cut_eq, hl, Nat.zero_add, Nat.le_refl, if_true, List.drop_zero, List.take_of_length_le (Nat.le_of_eq hl), hc, vO]
theorem writeA_eq {b o : Nat} {e : TypeId} {cs vs : List AV} (h : H.get b = some (.cells e cs)) (hv : vs ≠ []) (ho : o + vs.length ≤ cs.length) : writeA H b o vs = some (H.put b (some (.cells e (cs.take o ++ (vs ++ cs.drop (o + vs.length)))))) := by
  cases vs with
  | nil => exact absurd rfl hv
  | cons v vs => simp only [writeA, cellsTo, h, over_eq, if_pos ho, ob_some, AH.putTo_eq]
theorem w_store_cells {b o n : Nat} {e : TypeId} {cs : List AV} {v : AV} (h : H.get b = some (.cells e cs)) (hn : v.parts.length = n) (hv : v.parts ≠ []) (ho : o + n ≤ cs.length) (h1 : v.parts.all AV.one = true) :
    w_store n H (.ptr (some (b, o))) v = some (.skip (H.put b (some (.cells e (cs.take o ++ (v.parts ++ cs.drop (o + n))))))) := by
  have hl : lenN v.parts n = true := (lenN_iff _ _).2 hn
  have hw := writeA_eq (o := o) h hv (by omega)
  simp only [w_store, oStore, val_mk, onPtr, hl, allB_eq, h1, br_true, sO, hw, ob_some, hn]
theorem w_nil_ptr (b o : Nat) : w_nil H (.ptr (some (b, o))) = some (.val (.ptr (some (b, o))) H) := rfl
theorem w_idx_sl {sz b o n c : Nat} {ex : Bool} {k : IntKind} {j : Nat} (hj : j < n) : w_indexAddr (.sl sz) H (.slice (some (b, o)) n c ex) (.int k j) = some (.val (.ptr (some (b, o + j * sz))) H) := by
  have : Nat.blt j n = true := by simpa using hj
  simp only [w_indexAddr, oIndexAddr, val_mk, idxSl, idxA, show natZ (j : Int) = some j from rfl, ob_some, this, br_true, vO]
  rfl
end Go.Ab
