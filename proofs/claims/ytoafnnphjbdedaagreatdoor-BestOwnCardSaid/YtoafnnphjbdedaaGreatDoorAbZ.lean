/- Functions of the library that have no body: what the model answers for them, evaluated. -/
import Derived.Test.YtoafnnphjbdedaaGreatDoorAbY
namespace Go.Ab
variable {P : Program}

theorem ext_run {f : FuncId} {fn : Func} {args : Array Value} {w w' : World} {v : Value} {e : Array Value → Sem Value} (hf : P.funcs[f]? = some fn) (hb : fn.body.isNone = true) (hn : (fn.name == "runtime.NumGoroutine") = false) (h1 : Extern.findNext fn = none) (h2 : Extern.find fn = some e)
    (he : (e args).run P w = .ok v w') : (callFunc f args).run P w = .ok (.value v) w' := by
  have hn' : ¬ fn.name = "runtime.NumGoroutine" := by simpa using hn
  have hb' : fn.body = none := by simpa using hb
  simp [callFunc, hf, hb', hn', h1, h2, he]

/-- A type's handle. -/
noncomputable def hA (P : Program) (t : TypeId) : AV := .ptr (some (P.globals.size, t))
theorem hA_rel {ρ : Env} (h : ρ P.globals.size = some ⟨P.globals.size, 0, 0⟩) (t : TypeId) : Rel ρ (hA P t) (typeHandle P t) := ⟨_, h, by simp [typeHandle]⟩

/-- reflectlite.TypeOf; 'rt' is the type of its handles. -/
noncomputable def typeOfA (P : Program) (rt : TypeId) (args : List AV) (H : AH) : Option (AV × AH) := match args with
  | [.nilIface] => some (.nilIface, H)
  | [.iface t _] => some (.iface rt (.agg [hA P t]), H)
  | _ => none

theorem typeOf_run {ρ : Env} {H H' : AH} {w : World} {rt : TypeId} {args : List AV} {args' : Array Value} {v : AV} (he : typeOfA P rt args H = some (v, H')) (hrt : ∀ w, (cutType "internal/reflectlite.rtype").run P w = .ok rt w) (hh : ρ P.globals.size = some ⟨P.globals.size, 0, 0⟩)
    (ha : RelL ρ args args'.toList) : H' = H ∧ ∃ v', (Extern.ReflectliteType.typeOf args').run P w = .ok v' w ∧ Rel ρ v v' := by
  unfold typeOfA at he
  split at he
  · cases he
    obtain ⟨y, ys, e1, r1, e2⟩ := ha
    cases e2
    have : args' = #[y] := by apply Array.ext'; simpa using e1
    subst this
    cases r1
    exact ⟨rfl, _, rfl, rfl⟩
  · cases he
    obtain ⟨y, ys, e1, r1, e2⟩ := ha
    cases e2
    have : args' = #[y] := by apply Array.ext'; simpa using e1
    subst this
    obtain ⟨z, rfl, -⟩ := r1
    rename_i t _
    refine ⟨rfl, .iface rt (.agg #[typeHandle P t]), ?_, ⟨_, rfl, ⟨[typeHandle P t], rfl, .cons (hA_rel hh t) rfl⟩⟩⟩
    show (Extern.ReflectliteType.toType t).run P w = _
    simp [Extern.ReflectliteType.toType, hrt, Extern.Rtype.handle]
  · cases he

/-- What a computation that asks the program alone comes to. -/
noncomputable def dry {α : Type} (P : Program) : Sem α → Option α
  | .pure a => some a
  | .program k => dry P (k P)
  | .mark _ k => dry P k
  | _ => none
theorem dry_run {α : Type} : ∀ (s : Sem α) {a : α}, dry P s = some a → ∀ w, s.run P w = .ok a w
  | .pure b, a, h, w => by
    have h : some b = some a := h
    cases h; rfl
  | .program k, a, h, w => dry_run (k P) h w
  | .mark m k, a, h, w => dry_run k h w
  | .load .., a, h, w => by cases h
  | .store .., a, h, w => by cases h
  | .new .., a, h, w => by cases h
  | .shape .., a, h, w => by cases h
  | .freeze .., a, h, w => by cases h
  | .frozen .., a, h, w => by cases h
  | .getObj .., a, h, w => by cases h
  | .setObj .., a, h, w => by cases h
  | .choose .., a, h, w => by cases h
  | .sys .., a, h, w => by cases h
  | .halt .., a, h, w => by cases h

mutual
/-- A value that names no block, but handles of types: the value that it stands for. -/
noncomputable def cval (P : Program) : AV → Option Value
  | .bool b => some (.bool b)
  | .int k n => some (.int k n)
  | .str s => some (.string ⟨s.toArray⟩)
  | .ptr none => some (.pointer none)
  | .ptr (some (b, o)) => br (Nat.beq b P.globals.size) (some (typeHandle P o)) none
  | .nilIface => some .nilIface
  | .iface t x => ob (cval P x) fun v => some (.iface t v)
  | .agg cs => ob (cvalL P cs) fun vs => some (.agg vs.toArray)
  | _ => none
  termination_by structural x => x
noncomputable def cvalL (P : Program) : List AV → Option (List Value)
  | [] => some []
  | x :: xs => ob (cval P x) fun v => ob (cvalL P xs) fun vs => some (v :: vs)
  termination_by structural x => x
end

mutual
theorem cval_rel {ρ : Env} (hh : ρ P.globals.size = some ⟨P.globals.size, 0, 0⟩) : ∀ (x : AV) {v x' : Value}, cval P x = some v → Rel ρ x x' → x' = v
  | .bool b, v, x', h, r => by cases h; exact r
  | .int k n, v, x', h, r => by cases h; exact r
  | .str s, v, x', h, r => by cases h; exact r
  | .ptr none, v, x', h, r => by cases h; exact r
  | .ptr (some (b, o)), v, x', h, r => by
    simp only [cval, br_some_none, Option.some.injEq] at h
    obtain ⟨h1, rfl⟩ := h
    have h1 : b = P.globals.size := Nat.eq_of_beq_eq_true h1
    subst h1
    obtain ⟨l, hl, rfl⟩ := rel_ptr r
    rw [hh] at hl; cases hl
    simp [typeHandle]
  | .nilIface, v, x', h, r => by cases h; exact r
  | .iface t x, v, x', h, r => by
    simp only [cval, ob_eq_some, Option.some.injEq] at h
    obtain ⟨u, h1, rfl⟩ := h
    obtain ⟨y, rfl, r1⟩ := r
    rw [cval_rel hh x h1 r1]
  | .agg cs, v, x', h, r => by
    simp only [cval, ob_eq_some, Option.some.injEq] at h
    obtain ⟨us, h1, rfl⟩ := h
    obtain ⟨ys, rfl, r1⟩ := r
    rw [cvalL_rel hh cs h1 r1]
  | .slice none _ _ _, v, x', h, _ => by simp [cval] at h
  | .slice (some _) _ _ _, v, x', h, _ => by simp [cval] at h
  | .tail _ _, v, x', h, _ => by simp [cval] at h
  | .map _, v, x', h, _ => by simp [cval] at h
  | .fn _ _ _, v, x', h, _ => by simp [cval] at h
  | .yld _, v, x', h, _ => by simp [cval] at h
  | .nilFn, v, x', h, _ => by simp [cval] at h
  | .tup _, v, x', h, _ => by simp [cval] at h
theorem cvalL_rel {ρ : Env} (hh : ρ P.globals.size = some ⟨P.globals.size, 0, 0⟩) : ∀ (xs : List AV) {vs xs' : List Value}, cvalL P xs = some vs → RelL ρ xs xs' → xs' = vs
  | [], vs, xs', h, r => by cases h; exact r
  | x :: xs, vs, xs', h, r => by
    simp only [cvalL, ob_eq_some, Option.some.injEq] at h
    obtain ⟨v, h1, us, h2, rfl⟩ := h
    obtain ⟨y, ys, rfl, r1, r2⟩ := r
    rw [cval_rel hh x h1 r1, cvalL_rel hh xs h2 r2]
end

/-- What such a function hands back: a truth value, a number, a type. -/
noncomputable def absV (P : Program) (v : Value) : Option AV := match v with
  | .bool b => some (.bool b)
  | .int k n => some (.int k n)
  | .nilIface => some .nilIface
  | .iface t (.agg cs) => match cs.toList with
    | [.pointer (some ⟨b, o, none⟩)] => br (Nat.beq b P.globals.size) (some (.iface t (.agg [hA P o]))) none
    | _ => none
  | _ => none
theorem absV_rel {ρ : Env} (hh : ρ P.globals.size = some ⟨P.globals.size, 0, 0⟩) {v : Value} {x : AV} (h : absV P v = some x) : Rel ρ x v := by
  unfold absV at h
  split at h
  · cases h; rfl
  · cases h; rfl
  · cases h; rfl
  · rename_i t cs
    split at h
    · rename_i b o e
      rw [br_some_none] at h
      obtain ⟨h1, h⟩ := h
      cases h
      have h1 : b = P.globals.size := Nat.eq_of_beq_eq_true h1
      subst h1
      refine ⟨_, rfl, _, ?_, .cons (hA_rel hh o) rfl⟩
      congr 1
      apply Array.ext'
      rw [e]
      simp [typeHandle]
    · cases h
  · cases h

/-- A function that asks the program alone, on values that name no block. -/
noncomputable def dryA (P : Program) (e : Array Value → Sem Value) (args : List AV) (H : AH) : Option (AV × AH) :=
  ob (cvalL P args) fun vs => ob (dry P (e vs.toArray)) fun v => ob (absV P v) fun x => some (x, H)
theorem dryA_run {ρ : Env} (hh : ρ P.globals.size = some ⟨P.globals.size, 0, 0⟩) {e : Array Value → Sem Value} {args : List AV} {args' : Array Value} {H H' : AH} {w : World} {v : AV} (he : dryA P e args H = some (v, H')) (ha : RelL ρ args args'.toList) :
    H' = H ∧ ∃ v', (e args').run P w = .ok v' w ∧ Rel ρ v v' := by
  simp only [dryA, ob_eq_some, Option.some.injEq, Prod.mk.injEq] at he
  obtain ⟨vs, h1, u, h2, x, h3, rfl, rfl⟩ := he
  have e1 := cvalL_rel hh args h1 ha
  have e2 : args' = vs.toArray := by apply Array.ext'; rw [e1]
  subst e2
  exact ⟨rfl, u, dry_run _ h2 w, absV_rel hh h3⟩

/-! reflectlite's Values. -/
noncomputable def packA (P : Program) (t : TypeId) (b o fl : Nat) : Option AV := ob (dry P (Extern.Rtype.kind t)) fun k => some (.agg [hA P t, .ptr (some (b, o)), .int .u64 (Int.ofNat (k + 128 + fl))])
theorem pack_run {ρ : Env} (hh : ρ P.globals.size = some ⟨P.globals.size, 0, 0⟩) {t : TypeId} {b o fl : Nat} {x : AV} (h : packA P t b o fl = some x) {l : Loc} (hl : ρ b = some l) (w : World) :
    ∃ v, (Extern.ReflectliteValue.mk t ⟨l.blk, l.off + o, none⟩ fl).run P w = .ok v w ∧ Rel ρ x v := by
  simp only [packA, ob_eq_some, Option.some.injEq] at h
  obtain ⟨k, hk, rfl⟩ := h
  refine ⟨.agg #[typeHandle P t, .pointer (some ⟨l.blk, l.off + o, none⟩), .int .u64 (Int.ofNat (k + 128 + fl))], ?_, ⟨[_, _, _], rfl, .cons (hA_rel hh t) (.cons ⟨l, hl, rfl⟩ (.cons rfl rfl))⟩⟩
  simp [Extern.ReflectliteValue.mk, Extern.Rtype.handle, dry_run _ hk w, Extern.ReflectliteValue.flagIndir]

noncomputable def unpackA (P : Program) (x : AV) (H : AH) : Option (AV × AH) := match x with
  | .nilIface => some (.agg [.ptr none, .ptr none, .int .u64 0], H)
  | .iface t v => br (allB AV.one v.parts) (H.newTo none (.cells t v.parts) fun b H' => ob (packA P t b 0 0) fun x => some (x, H')) none
  | _ => none
theorem unpack_run {ρ : Env} {H H' : AH} {w : World} (hr : Real P ρ H w) (hh : ρ P.globals.size = some ⟨P.globals.size, 0, 0⟩) {x v : AV} (he : unpackA P x H = some (v, H')) {x' : Value} (hx : Rel ρ x x') :
    ∃ v' ρ' w', (Extern.ReflectliteValue.unpack x').run P w = .ok v' w' ∧ Rel ρ' v v' ∧ Good none P ρ H w ρ' H' w' := by
  unfold unpackA at he
  split at he
  · cases he
    cases hx
    exact ⟨Extern.ReflectliteValue.zeroV, ρ, w, rfl, ⟨[_, _, _], rfl, .cons rfl (.cons rfl (.cons rfl rfl))⟩, hr.good⟩
  · rename_i t u
    rw [br_some_none] at he
    obtain ⟨h1, he⟩ := he
    rw [newTo_eq] at he
    simp only [ob_eq_some, Option.some.injEq, Prod.mk.injEq] at he
    obtain ⟨x, hp, rfl, rfl⟩ := he
    obtain ⟨y, rfl, r1⟩ := hx
    rw [allB_eq, List.all_eq_true] at h1
    have hpp := r1.parts
    have hl := hpp.length
    have g := hr.newRow (at_ := none) (sp := 0) trivial (e := t) (cs := u.parts) (c := y.cells.toList) (by rw [List.take_of_length_le (by omega)]; exact hpp) h1 (by omega)
    obtain ⟨v', q1, q2⟩ := pack_run (ρ := ρ.with (idOf H none) ⟨w.heap.size, 0, 0⟩) (g.ev.le _ _ hh) hp (with_same _ _) { w with heap := w.heap.push (.cells y.cells t) }
    refine ⟨v', _, _, ?_, q2, g⟩
    simp only [Extern.ReflectliteValue.unpack, Go.newVar, Go.newRow, Sem.run_bind, run_newObj, Result.andThen_ok, Sem.run_pure]
    simpa using q1
  · cases he

noncomputable def valP (P : Program) : AV → Option (TypeId × Nat × Nat × Nat)
  | .agg [.ptr (some (g, t)), .ptr (some (b, o)), .int .u64 f] => br (Nat.beq g P.globals.size) (ob (natZ f) fun n => br (Nat.blt 0 n) (some (t, b, o, n)) none) none
  | _ => none
theorem valP_run {ρ : Env} (hh : ρ P.globals.size = some ⟨P.globals.size, 0, 0⟩) {x : AV} {t b o n : Nat} (h : valP P x = some (t, b, o, n)) {x' : Value} (hx : Rel ρ x x') :
    ∃ l, ρ b = some l ∧ x' = .agg #[typeHandle P t, .pointer (some ⟨l.blk, l.off + o, none⟩), .int .u64 n] ∧ 0 < n ∧ ∀ w, (Extern.ReflectliteValue.partsAny x').run P w = .ok (some (t, ⟨l.blk, l.off + o, none⟩, n)) w := by
  unfold valP at h
  split at h
  · rename_i g t' b' o' f
    simp only [br_some_none, ob_eq_some, natZ_eq_some, Nat.blt_eq, Option.some.injEq, Prod.mk.injEq] at h
    obtain ⟨h1, m, rfl, h2, rfl, rfl, rfl, rfl⟩ := h
    have h1 : g = P.globals.size := Nat.eq_of_beq_eq_true h1
    subst h1
    obtain ⟨cs, rfl, y1, ys, rfl, r1, y2, ys2, rfl, r2, y3, ys3, rfl, r3, r4⟩ := hx
    cases r4
    obtain ⟨lg, hg, rfl⟩ := rel_ptr r1
    rw [hh] at hg; cases hg
    obtain ⟨l, hl, rfl⟩ := rel_ptr r2
    rw [rel_int r3]
    refine ⟨l, hl, by simp [typeHandle], h2, fun w => ?_⟩
    cases m with
    | zero => exact absurd h2 (Nat.lt_irrefl _)
    | succ m =>
      show (do pure (some (← Extern.Rtype.ofHandle (.pointer (some ⟨P.globals.size, 0 + t', none⟩)), (⟨l.blk, l.off + o', none⟩ : Addr), m + 1)) : Sem (Option (TypeId × Addr × Nat))).run P w = _
      simp [Extern.Rtype.ofHandle, handleType]
  · cases h

/-- (Value).Type; (Value).Kind. -/
noncomputable def vTypeA (P : Program) (rt : TypeId) (args : List AV) (H : AH) : Option (AV × AH) := match args with
  | [x] => ob (valP P x) fun p => some (.iface rt (.agg [hA P p.1]), H)
  | _ => none
theorem vType_run {ρ : Env} (hh : ρ P.globals.size = some ⟨P.globals.size, 0, 0⟩) {H H' : AH} {w : World} {rt : TypeId} {args : List AV} {args' : Array Value} {v : AV} (he : vTypeA P rt args H = some (v, H')) (hrt : ∀ w, (cutType "internal/reflectlite.rtype").run P w = .ok rt w) (ha : RelL ρ args args'.toList) :
    H' = H ∧ ∃ v', (Extern.ReflectliteValue.methodAny (Extern.ReflectliteValue.valueError "reflectlite.Value.Type" 0) (fun t _ _ _ => Extern.ReflectliteType.toType t) args').run P w = .ok v' w ∧ Rel ρ v v' := by
  unfold vTypeA at he
  split at he
  · rename_i x
    simp only [ob_eq_some, Option.some.injEq, Prod.mk.injEq] at he
    obtain ⟨⟨t, b, o, n⟩, hp, rfl, rfl⟩ := he
    obtain ⟨y, ys, e1, r1, e2⟩ := ha
    cases e2
    have : args' = #[y] := by apply Array.ext'; simpa using e1
    subst this
    obtain ⟨l, hl, -, hn, hrun⟩ := valP_run hh hp r1
    refine ⟨rfl, .iface rt (.agg #[typeHandle P t]), ?_, ⟨_, rfl, ⟨[typeHandle P t], rfl, .cons (hA_rel hh t) rfl⟩⟩⟩
    rw [show Extern.ReflectliteValue.methodAny _ _ #[y] = Extern.ReflectliteValue.partsAny y >>= _ from rfl, Sem.run_bind, hrun w, Result.andThen_ok]
    simp [Extern.ReflectliteType.toType, hrt, Extern.Rtype.handle]
  · cases he

/-- A Value whose type no pack declares. -/
noncomputable def valQ (P : Program) (x : AV) : Option (TypeId × Nat × Nat × Nat) := ob (valP P x) fun p => ob (dry P (Extern.Rtype.noPack "a Value asked or handed on" p.1)) fun _ => some p
theorem valQ_run {ρ : Env} (hh : ρ P.globals.size = some ⟨P.globals.size, 0, 0⟩) {x : AV} {t b o n : Nat} (h : valQ P x = some (t, b, o, n)) {x' : Value} (hx : Rel ρ x x') :
    ∃ l, ρ b = some l ∧ ∀ w, (Extern.ReflectliteValue.parts x').run P w = .ok (some (t, ⟨l.blk, l.off + o, none⟩, n)) w := by
  simp only [valQ, ob_eq_some, Option.some.injEq] at h
  obtain ⟨p, h1, u, h2, rfl⟩ := h
  obtain ⟨l, hl, -, -, hrun⟩ := valP_run hh h1 hx
  refine ⟨l, hl, fun w => ?_⟩
  simp [Extern.ReflectliteValue.parts, hrun w, dry_run _ h2 w]

noncomputable def vKindA (P : Program) (args : List AV) (H : AH) : Option (AV × AH) := match args with
  | [x] => ob (valQ P x) fun p => some (.int .u8 (Int.ofNat (p.2.2.2 % 32)), H)
  | _ => none
theorem vKind_run {ρ : Env} (hh : ρ P.globals.size = some ⟨P.globals.size, 0, 0⟩) {H H' : AH} {w : World} {args : List AV} {args' : Array Value} {v : AV} (he : vKindA P args H = some (v, H')) (ha : RelL ρ args args'.toList) :
    H' = H ∧ ∃ v', (Extern.ReflectliteValue.method (pure (.int .u8 0)) (fun _ _ _ k => pure (.int .u8 (Int.ofNat k))) args').run P w = .ok v' w ∧ Rel ρ v v' := by
  unfold vKindA at he
  split at he
  · rename_i x
    simp only [ob_eq_some, Option.some.injEq, Prod.mk.injEq] at he
    obtain ⟨⟨t, b, o, n⟩, hp, rfl, rfl⟩ := he
    obtain ⟨y, ys, e1, r1, e2⟩ := ha
    cases e2
    have : args' = #[y] := by apply Array.ext'; simpa using e1
    subst this
    obtain ⟨l, hl, hrun⟩ := valQ_run hh hp r1
    refine ⟨rfl, .int .u8 (Int.ofNat (n % 32)), ?_, rfl⟩
    rw [show Extern.ReflectliteValue.method _ _ #[y] = Extern.ReflectliteValue.parts y >>= _ from rfl, Sem.run_bind, hrun w, Result.andThen_ok]
    simp
  · cases he

noncomputable def loadA (P : Program) (t : TypeId) (H : AH) (b o : Nat) : Option AV := ob (partF (aggT P t)) fun part => ob (cellsTo none H b fun _ cs => part cs o) clearA
theorem load_run {ρ : Env} {H : AH} {w : World} (hr : Real P ρ H w) {t : TypeId} {b o : Nat} {v : AV} (h : loadA P t H b o = some v) {l : Loc} (hl : ρ b = some l) : ∃ v', (loadVar t ⟨l.blk, l.off + o, none⟩).run P w = .ok v' w ∧ Rel ρ v v' := by
  simp only [loadA, ob_eq_some] at h
  obtain ⟨part, hp, u, h, hu⟩ := h
  obtain ⟨q, hq, hp'⟩ := part_some hp
  obtain ⟨e, cs, hc, hv⟩ := cellsTo_eq_some.1 h
  exact part_row hp' hq ((hr.lies b _ hc).toRow hl) hv hu

noncomputable def vNilA (P : Program) (args : List AV) (H : AH) : Option (AV × AH) := match args with
  | [x] => ob (valQ P x) fun p => br (Nat.beq (p.2.2.2 % 32) 22) (ob (loadA P p.1 H p.2.1 p.2.2.1) fun v => match v with
      | .ptr none => some (.bool true, H)
      | .ptr (some _) => some (.bool false, H)
      | _ => none) none
  | _ => none
theorem vNil_run {ρ : Env} {H H' : AH} {w : World} (hr : Real P ρ H w) (hh : ρ P.globals.size = some ⟨P.globals.size, 0, 0⟩) {args : List AV} {args' : Array Value} {v : AV} (he : vNilA P args H = some (v, H')) (ha : RelL ρ args args'.toList) :
    H' = H ∧ ∃ v', (Extern.ReflectliteValue.method (Extern.ReflectliteValue.valueError "reflectlite.Value.IsNil" 0) Extern.ReflectliteValue.isNil args').run P w = .ok v' w ∧ Rel ρ v v' := by
  unfold vNilA at he
  split at he
  · rename_i x
    simp only [ob_eq_some, br_some_none] at he
    obtain ⟨⟨t, b, o, n⟩, hp, hk, u, hu, he⟩ := he
    have hk : n % 32 = 22 := Nat.eq_of_beq_eq_true hk
    obtain ⟨y, ys, e1, r1, e2⟩ := ha
    cases e2
    have : args' = #[y] := by apply Array.ext'; simpa using e1
    subst this
    obtain ⟨l, hl, hrun⟩ := valQ_run hh hp r1
    obtain ⟨u', hu1, hu2⟩ := load_run hr hu hl
    have main : ∀ r, (Extern.ReflectliteValue.isNil t ⟨l.blk, l.off + o, none⟩ n (n % 32)).run P w = r → (Extern.ReflectliteValue.method (Extern.ReflectliteValue.valueError "reflectlite.Value.IsNil" 0) Extern.ReflectliteValue.isNil #[y]).run P w = r := by
      intro r h
      rw [show Extern.ReflectliteValue.method _ _ #[y] = Extern.ReflectliteValue.parts y >>= _ from rfl, Sem.run_bind, hrun w, Result.andThen_ok]
      simp [h]
    split at he
    · cases he
      refine ⟨rfl, .bool true, main _ ?_, rfl⟩
      cases hu2
      simp [Extern.ReflectliteValue.isNil, hk, hu1]
    · cases he
      refine ⟨rfl, .bool false, main _ ?_, rfl⟩
      rename_i p
      obtain ⟨b2, o2⟩ := p
      obtain ⟨l2, _, rfl⟩ := rel_ptr hu2
      simp [Extern.ReflectliteValue.isNil, hk, hu1]
    · cases he
  · cases he

/-- (Value).Elem: of a pointer. -/
noncomputable def vElemA (P : Program) (args : List AV) (H : AH) : Option (AV × AH) := match args with
  | [x] => ob (valQ P x) fun p => br (Nat.beq (p.2.2.2 % 32) 22) (ob (loadA P p.1 H p.2.1 p.2.2.1) fun v => match v with
      | .ptr (some (b, o)) => ob (dry P (Extern.Rtype.elem? p.1)) fun e => ob e fun e => ob (packA P e b o 256) fun x => some (x, H)
      | _ => none) none
  | _ => none
theorem vElem_run {ρ : Env} {H H' : AH} {w : World} (hr : Real P ρ H w) (hh : ρ P.globals.size = some ⟨P.globals.size, 0, 0⟩) {args : List AV} {args' : Array Value} {v : AV} (he : vElemA P args H = some (v, H')) (ha : RelL ρ args args'.toList) :
    H' = H ∧ ∃ v', (Extern.ReflectliteValue.method (Extern.ReflectliteValue.valueError "reflectlite.Value.Elem" 0) Extern.ReflectliteValue.elem args').run P w = .ok v' w ∧ Rel ρ v v' := by
  unfold vElemA at he
  split at he
  · rename_i x
    simp only [ob_eq_some, br_some_none] at he
    obtain ⟨⟨t, b, o, n⟩, hp, hk, u, hu, he⟩ := he
    have hk : n % 32 = 22 := Nat.eq_of_beq_eq_true hk
    obtain ⟨y, ys, e1, r1, e2⟩ := ha
    cases e2
    have : args' = #[y] := by apply Array.ext'; simpa using e1
    subst this
    obtain ⟨l, hl, hrun⟩ := valQ_run hh hp r1
    obtain ⟨u', hu1, hu2⟩ := load_run hr hu hl
    split at he
    · rename_i b2 o2
      simp only [ob_eq_some, Option.some.injEq, Prod.mk.injEq] at he
      obtain ⟨e0, he0, e', rfl, z, hz, rfl, rfl⟩ := he
      obtain ⟨l2, hl2, rfl⟩ := rel_ptr hu2
      obtain ⟨v', q1, q2⟩ := pack_run hh hz hl2 w
      refine ⟨rfl, v', ?_, q2⟩
      rw [show Extern.ReflectliteValue.method _ _ #[y] = Extern.ReflectliteValue.parts y >>= _ from rfl, Sem.run_bind, hrun w, Result.andThen_ok]
      simp [Extern.ReflectliteValue.elem, hk, hu1, dry_run _ he0 w, Extern.ReflectliteValue.flagAddr, q1]
    · cases he
  · cases he

/-- (Value).Set, the types assignable as they are. -/
noncomputable def vSetA (P : Program) (args : List AV) (H : AH) : Option (AV × AH) := match args with
  | [x, y] => ob (valQ P x) fun p => ob (valQ P y) fun q => br (Nat.beq (p.2.2.2 / 256 % 2) 0) none (ob (loadA P q.1 H q.2.1 q.2.2.1) fun u =>
      ob (dry P (Extern.Rtype.directlyAssignable p.1 q.1)) fun b => br b (ob (szOf P p.1) fun n => br (lenN u.parts n) (br (allB AV.one u.parts) (ob (writeA H p.2.1 p.2.2.1 u.parts) fun H' => some (.tup [], H')) none) none) none)
  | _ => none
theorem vSet_run {ρ : Env} {H H' : AH} {w : World} (hr : Real P ρ H w) (hh : ρ P.globals.size = some ⟨P.globals.size, 0, 0⟩) {args : List AV} {args' : Array Value} {v : AV} (he : vSetA P args H = some (v, H')) (ha : RelL ρ args args'.toList) :
    ∃ v' w', (Extern.ReflectliteValue.set args').run P w = .ok v' w' ∧ Rel ρ v v' ∧ Good none P ρ H w ρ H' w' := by
  unfold vSetA at he
  split at he
  · rename_i x y
    simp only [ob_eq_some, br_none_some, br_some_none, Option.some.injEq, Prod.mk.injEq, lenN_iff, allB_eq] at he
    obtain ⟨⟨t, b, o, n⟩, hp, ⟨t2, b2, o2, n2⟩, hq, hk, u, hu, d, hd, rfl, sz, hsz, hlen, h1, H2, hw, rfl, rfl⟩ := he
    obtain ⟨y1, ys, e1, r1, y2, ys2, rfl, r2, e2⟩ := ha
    cases e2
    have : args' = #[y1, y2] := by apply Array.ext'; simpa using e1
    subst this
    obtain ⟨l, hl, hrun⟩ := valQ_run hh hp r1
    obtain ⟨l2, hl2, hrun2⟩ := valQ_run hh hq r2
    obtain ⟨u', hu1, hu2⟩ := load_run hr hu hl2
    obtain ⟨w', w1, w2⟩ := hr.write hw hl hu2.parts (by simpa using h1)
    refine ⟨.tuple #[], w', ?_, ⟨[], rfl, rfl⟩, w2⟩
    have hcs : u'.cells.size = sz := by have := hu2.parts.length; simp at this; omega
    have hk : ¬ (n / 256 % 2 = 0) := fun q => by simp only at hk; rw [q] at hk; cases hk
    rw [show Extern.ReflectliteValue.set #[y1, y2] = Extern.ReflectliteValue.parts y1 >>= _ from rfl, Sem.run_bind, hrun w, Result.andThen_ok]
    have hg : (Extern.ReflectliteValue.parts ((#[y1, y2] : Array Value).getLit 1 rfl (Nat.lt_succ_self 1))).run P w = .ok (some (t2, ⟨l2.blk, l2.off + o2, none⟩, n2)) w := hrun2 w
    dsimp only
    rw [Sem.run_bind, hg, Result.andThen_ok]
    simp [ Extern.ReflectliteValue.flagAddr, hk, hu1, dry_run _ hd w, storeVar, run_size hsz, hcs, w1]
  · cases he

end Go.Ab
