/- A function that ranges over a function, once; and a round of it: what they do, said by weakest preconditions. -/
import Derived.Test.YtlbjmgpbgkiejaaGreatDoorEv3
namespace Go.Ab
noncomputable section
variable {P : Program} {prim : PrimF}

/-- Behind the function that was ranged over, and to the end of the call. -/
def afterR (P : Program) (prim : PrimF) (rs : List ResultVar) (C : Code) (a : TE) (d : Nat) (K : AV → AH → Prop) : AV → AH → Prop := fun _ H3 =>
  ∃ st fn' tm' ps' a' b' d', H3.get (d + 1) = some (.loop st none fn' tm' ps' a' b' d') ∧ st ≠ .busy ∧
    codeP P (WP P prim) C (fun e a H4 => (∀ id, e ≠ .exit id) ∧ H4.get d = some .defd ∧ endP (resE P rs a (H4.put d none)) K (H4.put d none)) a (H3.put (d + 1) (some (.loop .exhausted none fn' tm' ps' a' b' d')))
/-- At the range itself. -/
def atR (P : Program) (prim : PrimF) (f : FuncId) (N : Nat) (rs : List ResultVar) (g : Operand) (ps : Array Tmp) (asg body C : Code) (K : AV → AH → Prop) : KE := fun a H2 =>
  ∃ f' first cap, opE a g = .fn (.func f') first cap ∧ hasBody P f' = true ∧ ∀ tm, TmEq N tm a →
    (WP P prim).call f' (first ++ [.yld (H2.next + 1)] ++ cap) ((H2.new .defd).new (.loop .ready none f tm ps asg body H2.next)) (afterR P prim rs C a H2.next K)
theorem rangeFn_ok {f : FuncId} {args : List AV} {H : AH} {K : AV → AH → Prop} {fn : Func} {A B C : Code} {id : Nat} {g : Operand} {ps : Array Tmp} {asg body : Code} (hp : prim f = none) (hb : hasBody P f = true) (hf : P.funcs[f]? = some fn)
    (hc : fn.body = some (.seq A (.seq (.seq B (.block id (.rangeFunc g ps asg body))) C))) (hok : codeOk P fn.ntmps (.seq A (.seq (.seq B (.block id (.rangeFunc g ps asg body))) C)) = true) (hle : args.length ≤ fn.ntmps)
    (h : codeP P (WP P prim) A (fun e a H1 => e = .normal ∧ codeP P (WP P prim) B (fun e a H2 => e = .normal ∧ atR P prim f fn.ntmps fn.results.toList g ps asg body C K a H2) a H1) (argE args) H) : (WP P prim).call f args H K := by
  have hk := hok
  simp only [codeOk, Bool.and_eq_true] at hk
  obtain ⟨n1, e, tm1, a1, H1, r1, t1, rfl, h1⟩ := codeP_ok f none fn.ntmps A _ _ _ H hk.1 (start_eq hle) h
  obtain ⟨n2, e, tm2, a2, H2, r2, t2, rfl, h2⟩ := codeP_ok f none fn.ntmps B _ _ _ H1 hk.2.1.1 t1 h1
  obtain ⟨f', first, cap, hg, hb', hcall⟩ := h2
  obtain ⟨n3, v3, H3, r3, st, fn', tm', ps', a', b', d', e3, hst, h3⟩ := hcall tm2 t2
  obtain ⟨n4, e4, tm4, a4, H4, r4, t4, hne, hd, h4⟩ := codeP_ok f none fn.ntmps C _ _ _ _ hk.2.2 t2 h3
  rw [resE_eq t4.get] at h4
  unfold endP at h4
  cases hr : (resB P fn.results.toList).val tm4 (H4.put H2.next none) with
  | none => rw [hr] at h4; exact h4.elim
  | some l =>
  rw [hr] at h4
  refine ⟨n1 + n2 + n3 + n4 + 1, tupA l, H4.put H2.next none, fun m hm => ?_, h4⟩
  obtain ⟨m, rfl⟩ : ∃ k, m = k + 1 := ⟨m - 1, by omega⟩
  show callStep P prim (evBoth P prim m).1 (evBoth P prim m).2 m f args H = _
  unfold callStep
  rw [hp]
  show bx (funB P f) (fun g => g (evBoth P prim m).1 (evBoth P prim m).2 m args H) = _
  unfold funB
  rw [hb, br_true, hf]
  have hle' : Nat.ble args.length fn.ntmps = true := by simpa using hle
  simp only [hc, hok, br_true, bx_eq, val_mk, hle']
  have range : rangeF P ((opdB g).val tm2) ps asg body (cxOf P prim m f none) tm2 H2 [] = .ok .normal tm2 (H3.put (H2.next + 1) (some (.loop .exhausted none fn' tm' ps' a' b' d'))) [H2.next] := by
    unfold opE at hg
    rw [opdE_val t2.get] at hg
    rw [hg]
    unfold rangeF
    simp only [hb', br_true, newTo_none_eq]
    have r3' : (evBoth P prim m).1 f' (first ++ [.yld (H2.next + 1)] ++ cap) ((H2.new .defd).new (.loop .ready none f tm2 ps asg body H2.next)) = some (v3, H3) := r3 m (by omega)
    show endRange (H2.next + 1) H2.next tm2 [] ((evBoth P prim m).1 f' (first ++ [.yld (H2.next + 1)] ++ cap) ((H2.new .defd).new (.loop .ready none f tm2 ps asg body H2.next))) = _
    rw [r3']
    unfold endRange
    simp only [e3, if_neg hst, codeEx, AH.putTo_eq]
  have whole : (codeB P (.seq A (.seq (.seq B (.block id (.rangeFunc g ps asg body))) C))).val (cxOf P prim m f none) (putAll args 0 (TM0.full (depthOf (fn.ntmps + 1) fn.ntmps))) H [] = .ok e4 tm4 H4 [H2.next] := by
    have s1 : ∀ x y : Code, codeB P (.seq x y) = bx (codeB P x) fun a => bx (codeB P y) fun b => .mk fun cx tm h mk => (a cx tm h mk).next (b cx) := fun _ _ => rfl
    have s2 : ∀ (id : Nat) (x : Code), codeB P (.block id x) = bx (codeB P x) fun b => .mk fun cx tm h mk => blockOf id (b cx tm h mk) := fun _ _ => rfl
    have s3 : codeB P (.rangeFunc g ps asg body) = bx (opdB g) fun g => .mk fun cx tm h mk => rangeF P (g tm) ps asg body cx tm h mk := rfl
    rw [s1, bx_eq, bx_eq, val_mk, r1 m (by omega)]
    show ((codeB P (.seq (.seq B (.block id (.rangeFunc g ps asg body))) C)).val (cxOf P prim m f none) tm1 H1 []) = _
    rw [s1, bx_eq, bx_eq, val_mk, s1, bx_eq, bx_eq, val_mk, r2 m (by omega)]
    show Rs.next ((codeB P (.block id (.rangeFunc g ps asg body))).val (cxOf P prim m f none) tm2 H2 []) _ = _
    rw [s2, bx_eq, val_mk, s3, bx_eq, val_mk, range]
    show (codeB P C).val (cxOf P prim m f none) tm2 _ [H2.next] = _
    exact r4 m (by omega) [H2.next]
  show leaveA _ ((codeB P (.seq A (.seq (.seq B (.block id (.rangeFunc g ps asg body))) C))).val (cxOf P prim m f none) (putAll args 0 (TM0.full (depthOf (fn.ntmps + 1) fn.ntmps))) H []) = _
  rw [whole]
  cases e4 with
  | exit id => exact absurd rfl (hne id)
  | normal => simp [leaveA, closeMarks, hd, hr]
  | ret => simp [leaveA, closeMarks, hd, hr]

/-- A round that comes to its normal end. -/
theorem round_ok {l : Nat} {args : List AV} {H : AH} {K : AV → AH → Prop} {fn : FuncId} {tm tm1 : TM0} {N : Nat} {a1 : TE} {ps : Array Tmp} {asg body : Code} {d : Nat} {p : Option Code} {st : LoopState} (hl : H.get l = some (.loop st p fn tm ps asg body d))
    (hs : setAll ps.toList args tm = some tm1) (ht : TmEq N tm1 a1) (hok1 : codeOk P N asg = true) (hok2 : codeOk P N body = true)
    (h : codeP P (WP P prim) asg (fun e a H1 => e = .normal ∧ ∃ p f t ps' a' b' d', H1.get l = some (.loop .ready p f t ps' a' b' d') ∧
      codeP P (WP P prim) body (fun e _ H2 => e = .normal ∧ ∃ st p f t ps' a' b' d', H2.get l = some (.loop st p f t ps' a' b' d') ∧ K (.bool true) (H2.put l (some (.loop .ready none f t ps' a' b' d')))) a (H1.put l (some (.loop .busy p f t ps' a' b' d')))) a1 H) : (WP P prim).round l args H K := by
  obtain ⟨n1, e, tm2, a2, H1, r1, t2, rfl, p1, f1, u1, ps1, x1, b1, d1, g1, h1⟩ := codeP_ok fn (some l) N asg _ _ _ H hok1 ht h
  obtain ⟨n2, e, tm3, a3, H2, r2, t3, rfl, st2, p2, f2, u2, ps2, x2, b2, d2, g2, hk⟩ := codeP_ok fn (some l) N body _ _ _ _ hok2 t2 h1
  refine ⟨n1 + n2 + 1, .bool true, _, fun m hm => ?_, hk⟩
  obtain ⟨m, rfl⟩ : ∃ k, m = k + 1 := ⟨m - 1, by omega⟩
  show roundStep P (evBoth P prim m).1 (evBoth P prim m).2 m l args H = _
  unfold roundStep
  rw [hl]
  simp only [hs, ob_some]
  show beginRound P body (cxOf P prim m fn (some l)) l (bx (codeB P asg) fun g => g (cxOf P prim m fn (some l)) tm1 H []) = _
  rw [bx_eq, r1 m (by omega) []]
  unfold beginRound
  simp only [g1, AH.putTo_eq, bx_eq]
  rw [r2 m (by omega) []]
  unfold endRound
  simp only [g2, AH.putTo_eq]
end
end Go.Ab
