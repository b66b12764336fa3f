/- The evaluator is right. -/
import Derived.Test.YtoafnnphjbdedaaGreatDoorAbX
namespace Go.Ab
variable {P : Program}

theorem setAll_rel {ρ : Env} {N : Nat} : ∀ (ps : List Tmp) (args : List AV) (args' : List Value) (tm tm1 : TM0) (tmps : Array Value), setAll ps args tm = some tm1 → RelL ρ args args' → TmRel ρ N tm tmps → (∀ t ∈ ps, t < N) →
    ps.length = args'.length ∧ TmRel ρ N tm1 ((ps.zip args').foldl (fun tmps x => tmps.setIfInBounds x.1 x.2) tmps)
  | [], [], args', tm, tm1, tmps, h, hr, ht, _ => by
    cases hr
    cases h
    exact ⟨rfl, ht⟩
  | [], _ :: _, args', tm, tm1, tmps, h, _, _, _ => by cases h
  | _ :: _, [], args', tm, tm1, tmps, h, _, _, _ => by cases h
  | t :: ps, v :: vs, args', tm, tm1, tmps, h, hr, ht, hp => by
    obtain ⟨y, ys, rfl, h1, h2⟩ := hr
    have h : setAll ps vs (tm.set t v) = some tm1 := h
    obtain ⟨q1, q2⟩ := setAll_rel ps vs ys (tm.set t v) tm1 (tmps.setIfInBounds t y) h h2 (ht.set (hp t (by simp)) h1) fun u hu => hp u (by simp [hu])
    exact ⟨by simp [q1], q2⟩

theorem Real.record {ρ : Env} {H : AH} {w : World} (h : Real P ρ H w) {b : Nat} {l : Loc} (hl : ρ b = some l) {st : LoopState} {pend : Option Code} {fn : FuncId} {tm : TM0} {ps : Array Tmp} {asg body : Code} {d : Nat}
    (hb : H.get b = some (.loop st pend fn tm ps asg body d)) (st' : LoopState) (pend' : Option Code) : ∃ r : Loop, w.heap[l.blk]? = some (.loop r) ∧ r.state = st ∧
    ∃ w', (setObj l.blk (.loop { r with state := st', pending := pend' })).run P w = .ok () w' ∧ Good none P ρ H w ρ (H.put b (some (.loop st' pend' fn tm ps asg body d))) w' := by
  obtain ⟨l', ld, tmps, n, fn', q1, q2, q3, q4⟩ := h.lies b _ hb
  rw [hl] at q1; cases q1
  refine ⟨_, q3, rfl, ?_⟩
  exact h.setLoop hb hl q3 fun w' hw => ⟨l, ld, tmps, n, fn', hl, q2, hw, q4⟩

theorem round_wp {call : CallF} {round : RoundF} (hcx : CxOk P call round) (hm : P.follows .mixedOrders = true) (hreg : ∀ c, InProg P c → regsOk P c = true) {k : Nat} {l : Nat} {args : List AV} {args' : Array Value} {ρ : Env} {H : AH} {w : World} {v : AV} {H' : AH} {q : Loc}
    (he : roundStep P call round k l args H = some (v, H')) (hr : Real P ρ H w) (hq : ρ l = some q) (ha : RelL ρ args args'.toList) :
    ∃ fn tmps asg body, (Instr.yield q.blk args').run P w = .ok (.round q.blk fn tmps asg body) w ∧ ∀ n, RoundIn Fence.wide n P q.blk fn tmps asg body w (Ret P ρ H w v H') := by
  unfold roundStep at he
  split at he
  · rename_i st pend fn tm ps asg body d hg
    simp only [bx_eq, ob_eq_some] at he
    obtain ⟨tm1, hs, he⟩ := he
    obtain ⟨l', ld, tmps, N, fn1, q1, q2, q3, q4, i1, i2, c1, c2, hps⟩ := hr.lies l _ hg
    rw [hq] at q1; cases q1
    obtain ⟨hlen, ht1⟩ := setAll_rel ps.toList args args'.toList tm tm1 tmps hs ha q4 (fun t ht => hps t (by simpa using ht))
    simp only [Array.length_toList] at hlen
    have hfold : (ps.zip args').foldl (fun tmps (x : Tmp × Value) => tmps.setIfInBounds x.1 x.2) tmps = (ps.toList.zip args'.toList).foldl (fun tmps x => tmps.setIfInBounds x.1 x.2) tmps := by
      rw [← Array.foldl_toList, Array.toList_zip]
    refine ⟨fn1, (ps.zip args').foldl (fun tmps (x : Tmp × Value) => tmps.setIfInBounds x.1 x.2) tmps, asg, body, ?_, fun n => ?_⟩
    · have hsz : ¬ (args'.size ≠ ps.size) := by rw [hlen]; simp
      simp only [Instr.yield, Sem.run_bind, run_getLoop q3, Result.andThen_ok, if_neg hsz, Sem.run_pure]
    · rw [hfold]
      refine roundIn_of_wpIn trivial ?_
      unfold beginRound at he
      split at he
      · rename_i tm2 h2 mk2 hc2
        refine code_wp (cx := ⟨call, round, k, fn, some l⟩) (ro := some q.blk) hcx hm hreg (fun h => by cases h) asg i1 c1 hc2 hr (a := { tmps := _, defers := [] }) ht1 rfl fun ρ2 a2 w2 g2 t2 m2 => ?_
        split at he
        · rename_i p2 f2 t2' ps2 a2' b2' d2' hg2
          rw [AH.putTo_eq] at he
          have hq2 := g2.ev.le _ _ hq
          obtain ⟨r2, s1, s2, w3, s3, g3⟩ := g2.real.record hq2 hg2 .busy p2
          have hbeg : (Instr.beginRound q.blk).run P w2 = .ok () w3 := by
            have hpend : ({ r2 with state := .busy, pending := p2 } : Loop) = { r2 with state := .busy } := by
              obtain ⟨l9, ld9, tmps9, n9, fn9, z1, z2, z3, z4⟩ := g2.real.lies l _ hg2
              rw [hq2] at z1; cases z1
              rw [s1] at z3
              cases z3
              rfl
            rw [hpend] at s3
            simp only [Instr.beginRound, Sem.run_bind, run_getLoop s1, Result.andThen_ok, s3, s2, Sem.run_pure]
          refine ⟨w3, hbeg, ?_⟩
          simp only [bx_eq] at he
          unfold endRound at he
          split at he
          · cases he
          · rename_i e4 tm4 h4 mk4 hc4
            refine code_wp (cx := ⟨call, round, k, fn, some l⟩) (ro := some q.blk) hcx hm hreg (fun h => by cases h) body i2 c2 hc4 g3.real (t2.mono g3.ev.le) (m2.mono g3.ev.le) fun ρ4 a4 w4 g4 t4 m4 => ?_
            have hq4 := g4.ev.le _ _ hq2
            split at he
            · rename_i st5 p5 f5 t5 ps5 a5 b5 d5 hg5
              have gall := (g2.trans g3).trans g4
              split at he
              · rw [AH.putTo_eq] at he
                cases he
                obtain ⟨r5, s5, -, w6, s6, g6⟩ := g4.real.record hq4 hg5 .ready none
                refine ⟨.bool true, w6, ?_, ρ4, rfl, gall.trans g6⟩
                simp only [Instr.endRound, Sem.run_bind, run_getLoop s5, Result.andThen_ok]
                simp [s6]
              · rename_i hne
                rw [AH.putTo_eq] at he
                cases he
                obtain ⟨r5, s5, -, w6, s6, g6⟩ := g4.real.record hq4 hg5 .done (exCode e4)
                cases e4 with
                | normal => exact absurd rfl (hne)
                | exit id =>
                  refine ⟨.bool false, w6, ?_, ρ4, rfl, gall.trans g6⟩
                  simp only [Instr.endRound, Sem.run_bind, run_getLoop s5, Result.andThen_ok]
                  simp only [exCode] at s6
                  simp [s6]
                | ret =>
                  refine ⟨.bool false, w6, ?_, ρ4, rfl, gall.trans g6⟩
                  simp only [Instr.endRound, Sem.run_bind, run_getLoop s5, Result.andThen_ok]
                  simp only [exCode] at s6
                  simp [s6]
            · cases he
        · cases he
      · cases he
  · cases he

/-- What the functions that are not evaluated, but known, are. -/
def PrimOk (P : Program) (prim : PrimF) : Prop := ∀ {f : FuncId} {g : List AV → AH → Option (AV × AH)} {args : List AV} {args' : Array Value} {ρ : Env} {H : AH} {w : World} {v : AV} {H' : AH}, prim f = some g → g args H = some (v, H') → Real P ρ H w → RelL ρ args args'.toList →
  (hasBody P f = true → ∀ n, CallsIn Fence.wide n P f args' w (Ret P ρ H w v H')) ∧ (hasBody P f = false → ∃ v' ρ' w', (callFunc f args').run P w = .ok (.value v') w' ∧ Rel ρ' v v' ∧ Good none P ρ H w ρ' H' w')

/-- The evaluator is right. -/
theorem ev_ok {prim : PrimF} (hp : PrimOk P prim) (hm : P.follows .mixedOrders = true) (hreg : ∀ c, InProg P c → regsOk P c = true) : ∀ n, CxOk P (evBoth P prim n).1 (evBoth P prim n).2
  | 0 => ⟨fun h => (by cases h), fun h => (by cases h)⟩
  | n + 1 => by
    have ih := ev_ok hp hm hreg n
    refine ⟨fun {f args args' ρ H w v H'} he hr ha => ?_, fun {l args args' ρ H w v H' q} he hr hq ha => round_wp ih hm hreg he hr hq ha⟩
    have he : callStep P prim (evBoth P prim n).1 (evBoth P prim n).2 n f args H = some (v, H') := he
    unfold callStep at he
    cases hf : prim f with
    | some g =>
      rw [hf] at he
      exact hp hf he hr ha
    | none =>
      rw [hf] at he
      have he : bx (funB P f) (fun g => g (evBoth P prim n).1 (evBoth P prim n).2 n args H) = some (v, H') := he
      rw [bx_eq] at he
      refine ⟨fun _ m => fun_wp ih hm hreg he hr ha m, fun hno => ?_⟩
      unfold funB at he
      rw [hno, br_false] at he
      cases he

/-- A call, evaluated from a heap of nothing but what is known. -/
theorem call_ok {prim : PrimF} (hp : PrimOk P prim) (hm : P.follows .mixedOrders = true) (hreg : progOk P = true) {n : Nat} {f : FuncId} (hb : hasBody P f = true) {args : List AV} {args' : Array Value} {ρ : Env} {H : AH} {w : World} {v : AV} {H' : AH}
    (he : evCall P prim n f args H = some (v, H')) (hr : Real P ρ H w) (ha : RelL ρ args args'.toList) : Calls P f args' w (Ret P ρ H w v H') :=
  callsIn_wide (n := 0) |>.1 (((ev_ok hp hm (progOk_regs hreg) n).call he hr ha).1 hb 0)

end Go.Ab
