/- What is known of functions, put together: functions without a body, closed runs. -/
import Derived.Test.YtoafnnphjbdedaaGreatDoorAbEa
namespace Go.Ab
variable {P : Program}

/-- What is known of one function. -/
def PrimAt (P : Program) (f : FuncId) (g : List AV → AH → Option (AV × AH)) : Prop := ∀ {args : List AV} {args' : Array Value} {ρ : Env} {H : AH} {w : World} {v : AV} {H' : AH}, g args H = some (v, H') → Real P ρ H w → RelL ρ args args'.toList →
  (hasBody P f = true → ∀ n, CallsIn Fence.wide n P f args' w (Ret P ρ H w v H')) ∧ (hasBody P f = false → ∃ v' ρ' w', (callFunc f args').run P w = .ok (.value v') w' ∧ Rel ρ' v v' ∧ Good none P ρ H w ρ' H' w')
noncomputable def addP (f0 : FuncId) (g0 : List AV → AH → Option (AV × AH)) (prim : PrimF) : PrimF := fun f => br (Nat.beq f f0) (some g0) (prim f)
theorem primOk_none : PrimOk P (fun _ => none) := fun h => by cases h
theorem PrimOk.add {f0 : FuncId} {g0 : List AV → AH → Option (AV × AH)} {prim : PrimF} (h : PrimOk P prim) (h0 : PrimAt P f0 g0) : PrimOk P (addP f0 g0 prim) := by
  intro f g args args' ρ H w v H' hf hg hr ha
  unfold addP at hf
  rw [br_eq] at hf
  split at hf
  · rename_i e
    obtain rfl := Nat.eq_of_beq_eq_true e
    cases hf
    exact h0 hg hr ha
  · exact h hf hg hr ha

/-- A function without a body. -/
theorem ext_at {f : FuncId} {fn : Func} {e : Array Value → Sem Value} {g : List AV → AH → Option (AV × AH)} (hf : P.funcs[f]? = some fn) (hb : fn.body.isNone = true) (hn : (fn.name == "runtime.NumGoroutine") = false) (h1 : Extern.findNext fn = none) (h2 : Extern.find fn = some e) (hnb : hasBody P f = false)
    (sound : ∀ {args : List AV} {args' : Array Value} {ρ : Env} {H : AH} {w : World} {v : AV} {H' : AH}, g args H = some (v, H') → Real P ρ H w → RelL ρ args args'.toList → ∃ v' ρ' w', (e args').run P w = .ok v' w' ∧ Rel ρ' v v' ∧ Good none P ρ H w ρ' H' w') : PrimAt P f g := by
  intro args args' ρ H w v H' hg hr ha
  refine ⟨fun q => (by rw [hnb] at q; cases q), fun _ => ?_⟩
  obtain ⟨v', ρ', w', r1, r2, r3⟩ := sound hg hr ha
  exact ⟨v', ρ', w', ext_run hf hb hn h1 h2 r1, r2, r3⟩

theorem sound_typeOf {rt : TypeId} (hrt : dry P (cutType "internal/reflectlite.rtype") = some rt) : ∀ {args : List AV} {args' : Array Value} {ρ : Env} {H : AH} {w : World} {v : AV} {H' : AH}, typeOfA P rt args H = some (v, H') → Real P ρ H w → RelL ρ args args'.toList → ∃ v' ρ' w', (Extern.ReflectliteType.typeOf args').run P w = .ok v' w' ∧ Rel ρ' v v' ∧ Good none P ρ H w ρ' H' w' := by
  intro args args' ρ H w v H' hg hr ha
  obtain ⟨rfl, v', h1, h2⟩ := typeOf_run hg (fun w => dry_run _ hrt w) hr.hand ha
  exact ⟨v', ρ, w, h1, h2, hr.good⟩
noncomputable def valueOfA (P : Program) (args : List AV) (H : AH) : Option (AV × AH) := match args with
  | [x] => unpackA P x H
  | _ => none
theorem sound_valueOf : ∀ {args : List AV} {args' : Array Value} {ρ : Env} {H : AH} {w : World} {v : AV} {H' : AH}, valueOfA P args H = some (v, H') → Real P ρ H w → RelL ρ args args'.toList → ∃ v' ρ' w', (Extern.ReflectliteValue.unpack (args'.getD 0 (.tuple #[]))).run P w = .ok v' w' ∧ Rel ρ' v v' ∧ Good none P ρ H w ρ' H' w' := by
  intro args args' ρ H w v H' hg hr ha
  unfold valueOfA at hg
  split at hg
  · obtain ⟨y, ys, e1, r1, e2⟩ := ha
    cases e2
    have : args' = #[y] := by apply Array.ext'; simpa using e1
    subst this
    exact unpack_run hr hr.hand hg r1
  · cases hg
theorem sound_vType {rt : TypeId} (hrt : dry P (cutType "internal/reflectlite.rtype") = some rt) : ∀ {args : List AV} {args' : Array Value} {ρ : Env} {H : AH} {w : World} {v : AV} {H' : AH}, vTypeA P rt args H = some (v, H') → Real P ρ H w → RelL ρ args args'.toList → ∃ v' ρ' w', (Extern.ReflectliteValue.methodAny (Extern.ReflectliteValue.valueError "reflectlite.Value.Type" 0) (fun t _ _ _ => Extern.ReflectliteType.toType t) args').run P w = .ok v' w' ∧ Rel ρ' v v' ∧ Good none P ρ H w ρ' H' w' := by
  intro args args' ρ H w v H' hg hr ha
  obtain ⟨rfl, v', h1, h2⟩ := vType_run hr.hand hg (fun w => dry_run _ hrt w) ha
  exact ⟨v', ρ, w, h1, h2, hr.good⟩
theorem sound_vKind : ∀ {args : List AV} {args' : Array Value} {ρ : Env} {H : AH} {w : World} {v : AV} {H' : AH}, vKindA P args H = some (v, H') → Real P ρ H w → RelL ρ args args'.toList → ∃ v' ρ' w', (Extern.ReflectliteValue.method (pure (.int .u8 0)) (fun _ _ _ k => pure (.int .u8 (Int.ofNat k))) args').run P w = .ok v' w' ∧ Rel ρ' v v' ∧ Good none P ρ H w ρ' H' w' := by
  intro args args' ρ H w v H' hg hr ha
  obtain ⟨rfl, v', h1, h2⟩ := vKind_run hr.hand hg ha
  exact ⟨v', ρ, w, h1, h2, hr.good⟩
theorem sound_vNil : ∀ {args : List AV} {args' : Array Value} {ρ : Env} {H : AH} {w : World} {v : AV} {H' : AH}, vNilA P args H = some (v, H') → Real P ρ H w → RelL ρ args args'.toList → ∃ v' ρ' w', (Extern.ReflectliteValue.method (Extern.ReflectliteValue.valueError "reflectlite.Value.IsNil" 0) Extern.ReflectliteValue.isNil args').run P w = .ok v' w' ∧ Rel ρ' v v' ∧ Good none P ρ H w ρ' H' w' := by
  intro args args' ρ H w v H' hg hr ha
  obtain ⟨rfl, v', h1, h2⟩ := vNil_run hr hr.hand hg ha
  exact ⟨v', ρ, w, h1, h2, hr.good⟩
theorem sound_vElem : ∀ {args : List AV} {args' : Array Value} {ρ : Env} {H : AH} {w : World} {v : AV} {H' : AH}, vElemA P args H = some (v, H') → Real P ρ H w → RelL ρ args args'.toList → ∃ v' ρ' w', (Extern.ReflectliteValue.method (Extern.ReflectliteValue.valueError "reflectlite.Value.Elem" 0) Extern.ReflectliteValue.elem args').run P w = .ok v' w' ∧ Rel ρ' v v' ∧ Good none P ρ H w ρ' H' w' := by
  intro args args' ρ H w v H' hg hr ha
  obtain ⟨rfl, v', h1, h2⟩ := vElem_run hr hr.hand hg ha
  exact ⟨v', ρ, w, h1, h2, hr.good⟩
theorem sound_vSet : ∀ {args : List AV} {args' : Array Value} {ρ : Env} {H : AH} {w : World} {v : AV} {H' : AH}, vSetA P args H = some (v, H') → Real P ρ H w → RelL ρ args args'.toList → ∃ v' ρ' w', (Extern.ReflectliteValue.set args').run P w = .ok v' w' ∧ Rel ρ' v v' ∧ Good none P ρ H w ρ' H' w' := by
  intro args args' ρ H w v H' hg hr ha
  obtain ⟨v', w', h1, h2, h3⟩ := vSet_run hr hr.hand hg ha
  exact ⟨v', ρ, w', h1, h2, h3⟩
theorem sound_dry (e : Array Value → Sem Value) : ∀ {args : List AV} {args' : Array Value} {ρ : Env} {H : AH} {w : World} {v : AV} {H' : AH}, dryA P e args H = some (v, H') → Real P ρ H w → RelL ρ args args'.toList → ∃ v' ρ' w', (e args').run P w = .ok v' w' ∧ Rel ρ' v v' ∧ Good none P ρ H w ρ' H' w' := by
  intro args args' ρ H w v H' hg hr ha
  obtain ⟨rfl, v', h1, h2⟩ := dryA_run hr.hand hg ha
  exact ⟨v', ρ, w, h1, h2, hr.good⟩

/-! slices.overlaps, of rows in two blocks. -/
noncomputable def overlapsA (P : Program) (t : TypeId) (args : List AV) (H : AH) : Option (AV × AH) := match args with
  | [.slice (some (b, o)) la _ _, .slice (some (b', _)) _ _ _] => br (Nat.beq b b') none
      (match H.get b, H.get b', slT P t with
        | some (.cells e cs), some (.cells _ cs'), some el => br (isU8 P e) none (br (Nat.blt o cs.length) (br (Nat.blt 0 cs'.length) (ob (szOf P el) fun _ => some (.bool false, H)) none) none)
        | _, _, _ => none)
  | _ => none
theorem sound_overlaps {t u : TypeId} : ∀ {args : List AV} {args' : Array Value} {ρ : Env} {H : AH} {w : World} {v : AV} {H' : AH}, overlapsA P t args H = some (v, H') → Real P ρ H w → RelL ρ args args'.toList → ∃ v' ρ' w', (Extern.SlicesOverlaps.overlaps #[t, t] #[u] args').run P w = .ok v' w' ∧ Rel ρ' v v' ∧ Good none P ρ H w ρ' H' w' := by
  intro args args' ρ H w v H' hg hr ha
  unfold overlapsA at hg
  split at hg
  · rename_i b o la ca xa b' o' lb cb xb
    rw [br_none_some] at hg
    obtain ⟨hne, hg⟩ := hg
    have hne : b ≠ b' := fun e => by subst e; rw [show Nat.beq b b = true from Nat.beq_refl b] at hne; cases hne
    split at hg
    · rename_i e cs e' cs' el h1 h2 h3
      simp only [br_none_some, br_some_none, ob_eq_some, Option.some.injEq, Prod.mk.injEq, Nat.blt_eq] at hg
      obtain ⟨hu, hcs, hcs', sz, hsz, rfl, rfl⟩ := hg
      obtain ⟨y, ys, e1, r1, y2, ys2, rfl, r2, e2⟩ := ha
      cases e2
      have : args' = #[y, y2] := by apply Array.ext'; simpa using e1
      subst this
      obtain ⟨l, hl, rfl⟩ := rel_slice r1
      obtain ⟨l', hl', rfl⟩ := rel_slice r2
      obtain ⟨m, c, fr, a1, a2, a3, a4, a5, a6, a7⟩ := hr.lies b _ h1
      rw [hl] at a1; cases a1
      obtain ⟨m', c', fr', b1, b2, b3, b4, b5, b6, b7⟩ := hr.lies b' _ h2
      rw [hl'] at b1; cases b1
      have hb : l.blk ≠ l'.blk := fun q => hne (hr.inj b b' l l' (by rw [h1]; simp) (by rw [h2]; simp) hl hl' q)
      have hfr := a7.2 hu
      obtain ⟨lo, hi⟩ := fr
      simp only at hfr
      subst hfr
      have hund : P.underlying t = some (.slice el) := by
        unfold slT at h3
        split at h3
        · cases h3; assumption
        · cases h3
      have hnb : (l.blk != l'.blk) = true := by simpa using hb
      have hnb' : (l.blk == l'.blk) = false := by simpa using hb
      have hfz : ∀ o, w.frozen? ⟨l.blk, o, none⟩ = false := fun o => by
        simp only [World.frozen?, a2, Bool.and_eq_false_iff, decide_eq_false_iff_not]; omega
      have hsa : w.shape? l.blk = some (e, c.size) := by simp [World.shape?, a2]
      have hsb : w.shape? l'.blk = some (e', c'.size) := by simp [World.shape?, b2]
      refine ⟨.bool false, ρ, w, ?_, rfl, hr.good⟩
      cases hk : c'.size with
      | zero => omega
      | succ kB =>
        rw [hk] at hsb
        change Sem.run P (α := Value) (do
          let some t := (#[t, t] : Array TypeId)[0]? | stuck "slices.overlaps: no parameter types"
          let .slice elem ← underlying t | stuck "slices.overlaps: slice type expected"
          let size ← sizeOf elem
          match (some ⟨l.blk, l.off + o, none⟩ : Option Addr), (some ⟨l'.blk, l'.off + o', none⟩ : Option Addr) with
          | some a, some b =>
            if la = 0 ∨ lb = 0 ∨ size = 0 then pure (Value.bool false)
            else if a.block != b.block && (← frozen a) && (← frozen b) then unsupported .addressObserved
            else do
              if a.block != b.block then do
                noView a; noView b
                if ← mayBeOne a b then return Value.bool ((← choose (.extern "sameAddr.stringBytes" 2)) == 1)
              pure (Value.bool (a.block == b.block && a.off < b.off + lb * size && b.off < a.off + la * size))
          | _, _ => pure (Value.bool false)) w = _
        by_cases h0 : la = 0 ∨ lb = 0 ∨ sz = 0
        · simp [run_und hund, run_size hsz, h0]
        · simp [run_und hund, run_size hsz, h0, hnb, hnb', frozen, noView, viewAt, mayBeOne, stringish, shape, Sem.run, hsa, hsb, hfz]
    · cases hg
  · cases hg

/-! A closed run, known in every heap in which the laid variable is as it was laid. -/
noncomputable def laidV (rt G h : Nat) : AV := .iface rt (.agg [.ptr (some (G, h))])
noncomputable def laidA (ob' : Obj) (rt G h : Nat) : ABlk := .ro ob' fun i => br (Nat.beq i 0) (some (laidV rt G h)) none
noncomputable def isLaid (rt G h : Nat) (x : Option ABlk) : Bool := match x with
  | some (.ro _ f) => match f 0 with
    | some y => AV.beq y (laidV rt G h)
    | none => false
  | _ => false
theorem isLaid_eq {rt G h : Nat} {x : Option ABlk} (hx : isLaid rt G h x = true) : ∃ ob' f, x = some (.ro ob' f) ∧ f 0 = some (laidV rt G h) := by
  unfold isLaid at hx
  split at hx
  · rename_i ob' f
    split at hx
    · rename_i y hy
      exact ⟨ob', f, rfl, by rw [hy, AV.beq_eq _ _ hx]⟩
    · cases hx
  · cases hx
noncomputable def AH.start (n : Nat) (x : ABlk) : AH := ⟨Tr.leaf.put 0 (some x), n⟩
theorem get_start (n : Nat) (x : ABlk) (b : Nat) : (AH.start n x).get b = if b = 0 then some x else none := by
  show (Tr.put Tr.leaf 0 (some x)).get b = _
  rw [Tr.get_put]; rfl
/-- What it comes to, and what the variable's block is then. -/
noncomputable def closedR (r : Option (AV × AH)) : Option (Bool × Option ABlk) :=
  @Option.rec (AV × AH) (fun _ => Option (Bool × Option ABlk)) none (fun p => some (boolIs true p.1, p.2.get 0)) r
noncomputable def closedA (rt G h : Nat) (args : List AV) (H : AH) : Option (AV × AH) := match args with
  | [] => br (isLaid rt G h (H.get 0)) (some (.bool true, H)) none
  | _ => none

theorem closed_at {prim : PrimF} (hp : PrimOk P prim) (hm : P.follows .mixedOrders = true) (hreg : progOk P = true) {n : Nat} {f : FuncId} {rt h : Nat} (hb : hasBody P f = true)
    (he : ∀ ob' : Obj, closedR (evCall P prim n f [] (AH.start (P.globals.size + 1) (laidA ob' rt P.globals.size h))) = some (true, some (laidA ob' rt P.globals.size h))) : PrimAt P f (closedA rt P.globals.size h) := by
  intro args args' ρ H w v H' hg hr ha
  refine ⟨fun _ m => ?_, fun q => (by rw [hb] at q; cases q)⟩
  unfold closedA at hg
  split at hg
  case h_2 => cases hg
  rw [br_some_none] at hg
  obtain ⟨hl0, hg⟩ := hg
  cases hg
  obtain ⟨ob', f0, hlaid, hf0⟩ := isLaid_eq hl0
  have hargs : args' = #[] := by
    have := ha.length
    apply Array.ext'
    exact List.eq_nil_of_length_eq_zero (by simpa using this)
  subst hargs
  let ρ0 : Env := fun b => if b < P.globals.size + 1 then ρ b else none
  have e0 : ρ0 0 = ρ 0 := if_pos (Nat.succ_pos _)
  have eG : ρ0 P.globals.size = ρ P.globals.size := if_pos (Nat.lt_succ_self _)
  have hget : ∀ b x, (AH.start (P.globals.size + 1) (laidA ob' rt P.globals.size h)).get b = some x → b = 0 ∧ x = laidA ob' rt P.globals.size h := by
    intro b x hx
    rw [get_start] at hx
    split at hx
    · cases hx; exact ⟨by assumption, rfl⟩
    · cases hx
  have hne : ∀ b, (AH.start (P.globals.size + 1) (laidA ob' rt P.globals.size h)).get b ≠ none → b = 0 := by
    intro b hb
    obtain ⟨x, hx⟩ := Option.ne_none_iff_exists'.1 hb
    exact (hget b x hx).1
  obtain ⟨l0, c, e, fr, hl0', a2, a3, a4⟩ := hr.lies 0 _ hlaid
  have r0 : Real P ρ0 (AH.start (P.globals.size + 1) (laidA ob' rt P.globals.size h)) w := by
    refine ⟨fun b x hx => ?_, fun b b' l l' q1 q2 _ _ _ => by rw [hne b q1, hne b' q2], fun b hb => if_neg (by
      have hb : P.globals.size + 1 ≤ b := hb
      omega), fun g hg => (if_pos hg).trans (hr.glob' g hg)⟩
    obtain ⟨rfl, rfl⟩ := hget b x hx
    refine ⟨l0, c, e, fr, e0.trans hl0', a2, a3, fun i x hx => ?_⟩
    rw [br_some_none] at hx
    obtain ⟨hi, hx⟩ := hx
    obtain rfl := Nat.eq_of_beq_eq_true hi
    cases hx
    obtain ⟨q1, v, q2, q3⟩ := a4 0 _ hf0
    refine ⟨rfl, v, q2, ?_⟩
    obtain ⟨y, rfl, cs, rfl, y2, ys, rfl, ⟨m, q4, q5⟩, r2⟩ := q3
    exact ⟨_, rfl, _, rfl, y2, ys, rfl, ⟨m, eG.trans q4, q5⟩, r2⟩
  have he := he ob'
  cases hev : evCall P prim n f [] (AH.start (P.globals.size + 1) (laidA ob' rt P.globals.size h)) with
  | none => rw [hev] at he; cases he
  | some r =>
    obtain ⟨v1, H1⟩ := r
    rw [hev] at he
    have he : some (boolIs true v1, H1.get 0) = some (true, some (laidA ob' rt P.globals.size h)) := he
    simp only [Option.some.injEq, Prod.mk.injEq] at he
    obtain ⟨hv1, h1⟩ := he
    have hv1 : v1 = .bool true := by
      cases v1 <;> first | (cases hv1; done) | skip
      rename_i b; cases b
      · cases hv1
      · rfl
    subst hv1
    have hc := ((ev_ok hp hm (progOk_regs hreg) n).call hev r0 (show RelL ρ0 [] #[].toList from rfl)).1 hb m
    refine hc.mono fun e' w' hret => ?_
    unfold Ret at hret ⊢
    cases e' with
    | returned v' =>
      obtain ⟨ρ', q1, g⟩ := hret
      refine ⟨ρ, q1, ?_⟩
      have keep : ∀ B, B < w.heap.size → B ≠ l0.blk → w'.heap[B]? = w.heap[B]? := fun B hB hn => g.ev.keep B hB fun b l hb hl => by
        have := hne b hb
        subst this
        rw [e0, hl0'] at hl; cases hl
        exact fun q => hn q.symm
      refine ⟨⟨fun b x hx => ?_, hr.inj, hr.fresh, hr.glob'⟩, ⟨.refl ρ, Nat.le_refl _, g.ev.size, fun b l q1 q2 _ => ⟨b, l, q1, q2, rfl⟩, fun B hB hn => keep B hB fun q => hn 0 l0 (by rw [hlaid]; simp) hl0' q.symm, g.ev.os, g.ev.tape, g.ev.output, fun _ _ q _ => q⟩⟩
      by_cases hb0 : b = 0
      · subst hb0
        rw [hlaid] at hx; cases hx
        obtain ⟨l1, _, _, _, k1, k2, _⟩ := g.real.lies 0 _ h1
        have : l1 = l0 := by
          have := g.ev.le _ _ (e0.trans hl0')
          rw [k1] at this; exact Option.some.inj this
        subst this
        exact ⟨l1, c, e, fr, hl0', k2, a3, a4⟩
      · refine (hr.lies b x hx).mono (.refl ρ) fun l hl => keep _ (hr.inb (by rw [hx]; simp) hl) fun q => hb0 ?_
        exact hr.inj b 0 l l0 (by rw [hx]; simp) (by rw [hlaid]; simp) hl hl0' q
    | _ => exact hret.elim
end Go.Ab
