/- Functions, evaluated. -/
import Derived.Test.YtoafnnphjbdedaaGreatDoorAbW
namespace Go.Ab
variable {P : Program}

/-! The room for the temporaries. -/
theorem full_succ (d : Nat) : TM0.full (d + 1) = .node undefA (TM0.full d) (TM0.full d) := rfl
theorem full_get : ∀ (d i : Nat), (TM0.full d).get i = undefA
  | 0, i => rfl
  | d + 1, i => by
    rw [full_succ, TM0.get_node]
    cases i with
    | zero => rfl
    | succ m => simp only; split <;> exact full_get d _
theorem depthOf_succ (f n : Nat) : depthOf (f + 1) (n + 1) = depthOf f ((n + 1) / 2) + 1 := rfl
theorem full_has : ∀ (f n i : Nat), n < f → i < n → (TM0.full (depthOf f n)).has i = true
  | 0, n, i, h, _ => absurd h (Nat.not_lt_zero _)
  | f + 1, 0, i, _, h => absurd h (Nat.not_lt_zero _)
  | f + 1, n + 1, i, hf, hi => by
    rw [depthOf_succ, full_succ, TM0.has_node]
    cases i with
    | zero => rfl
    | succ m => simp only; split <;> exact full_has f _ _ (by omega) (by omega)

theorem putAll_get : ∀ (l : List AV) (i : Nat) (tm : TM0), (∀ j, j < i + l.length → tm.has j = true) → (∀ j, (putAll l i tm).has j = tm.has j) ∧ ∀ j, (putAll l i tm).get j = if i ≤ j ∧ j < i + l.length then l.getD (j - i) undefA else tm.get j
  | [], i, tm, h => ⟨fun j => rfl, fun j => by
    have : ¬ (i ≤ j ∧ j < i + ([] : List AV).length) := by simp only [List.length_nil]; omega
    rw [if_neg this]; rfl⟩
  | v :: l, i, tm, h => by
    have e : putAll (v :: l) i tm = putAll l (i + 1) (tm.set i v) := rfl
    obtain ⟨h1, h2⟩ := putAll_get l (i + 1) (tm.set i v) (fun j hj => by rw [TM0.has_set]; exact h j (by simp; omega))
    rw [e]
    refine ⟨fun j => by rw [h1, TM0.has_set], fun j => ?_⟩
    rw [h2, TM0.get_set _ _ _ (h i (by simp))]
    simp only [List.length_cons]
    by_cases hj : j = i
    · subst hj
      have c1 : ¬ (j + 1 ≤ j ∧ j < j + 1 + l.length) := by omega
      have c2 : j ≤ j ∧ j < j + (l.length + 1) := by omega
      rw [if_neg c1, if_pos c2]; simp
    · by_cases hj2 : i + 1 ≤ j ∧ j < i + 1 + l.length
      · have c2 : i ≤ j ∧ j < i + (l.length + 1) := by omega
        rw [if_pos hj2, if_pos c2]
        have : j - i = (j - (i + 1)) + 1 := by omega
        rw [this]; simp
      · have c2 : ¬ (i ≤ j ∧ j < i + (l.length + 1)) := by omega
        rw [if_neg hj2, if_neg c2]; simp [hj]

theorem start_rel {ρ : Env} {args : List AV} {args' : Array Value} (hr : RelL ρ args args'.toList) {n : Nat} (hn : args.length ≤ n) :
    TmRel ρ n (putAll args 0 (TM0.full (depthOf (n + 1) n))) (args' ++ Array.replicate (n - args'.size) undef) := by
  have hl := hr.length
  simp only [Array.length_toList] at hl
  obtain ⟨h1, h2⟩ := putAll_get args 0 (TM0.full (depthOf (n + 1) n)) (fun j hj => full_has _ _ _ (by omega) (by omega))
  refine ⟨by simp; omega, fun i hi => by rw [h1]; exact full_has _ _ _ (by omega) hi, fun i => ?_⟩
  rw [h2, full_get]
  have e : (args' ++ Array.replicate (n - args'.size) undef).getD i undef = args'.toList.getD i undef := by
    rw [Array.getD_eq_getD_getElem?, List.getD_eq_getElem?_getD, Array.getElem?_append]
    split
    · simp
    · rename_i hlt
      have : args'.toList[i]? = none := by simp; omega
      rw [this, Array.getElem?_replicate]
      split <;> rfl
  rw [e]
  have := hr.getD (d := undefA) (d' := undef) rel_undef i
  by_cases hi : 0 ≤ i ∧ i < 0 + args.length
  · rw [if_pos hi, Nat.sub_zero]; exact this
  · rw [if_neg hi]
    have hd : args.getD i undefA = undefA := by
      rw [List.getD_eq_getElem?_getD, List.getElem?_eq_none (by omega)]; rfl
    rw [hd] at this; exact this

/-! The way out. -/
theorem Real.drop {ρ : Env} {H : AH} {w : World} (h : Real P ρ H w) {b : Nat} {l : Loc} {w' : World} (hb : H.get b ≠ none) (hl : ρ b = some l) (hs : w'.heap.size = w.heap.size)
    (ho : ∀ k, k ≠ l.blk → w'.heap[k]? = w.heap[k]?) (e1 : w'.os = w.os) (e2 : w'.tape = w.tape) (e3 : w'.output = w.output) : Good none P ρ H w ρ (H.put b none) w' := by
  have ne : ∀ c, (H.put b none).get c ≠ none → c ≠ b ∧ H.get c ≠ none := fun c hc => by
    rw [AH.get_put] at hc
    split at hc
    · exact absurd rfl hc
    · exact ⟨by assumption, hc⟩
  refine ⟨⟨fun c y hc => ?_, fun c c' m m' hc hc' hm hm' e => h.inj c c' m m' (ne c hc).2 (ne c' hc').2 hm hm' e, fun c hc => h.fresh c hc, h.glob'⟩, ?_⟩
  · rw [AH.get_put] at hc
    split at hc
    · cases hc
    · rename_i hcb
      refine (h.lies c y hc).mono (.refl ρ) fun m hm => ho _ fun e' => hcb ?_
      exact h.inj c b m l (by rw [hc]; simp) hb hm hl e'
  · exact ⟨.refl ρ, Nat.le_refl _, by omega, fun c m hc hm _ => ⟨c, m, (ne c hc).2, hm, rfl⟩, fun B hB hn => ho B fun e => hn b l hb hl e.symm, e1, e2, e3, fun _ _ h _ => h⟩

/-- One result, read. -/
def resOne (tmps : Array Value) : ResultVar → Sem Value
  | .tmp t => pure (tmps.getD t undef)
  | .cell a t => do loadVar t (← asAddr (tmps.getD a undef))
theorem results_eq (fn : Func) (tmps : Array Value) : results fn tmps = (do
    let vs ← fn.results.mapM (resOne tmps)
    pure (if h : vs.size = 1 then vs[0] else .tuple vs)) := by
  unfold results
  congr 1

theorem res_run {ρ : Env} {H : AH} {w : World} (h : Real P ρ H w) {tm : TM0} {tmps : Array Value} (ht : ∀ i, Rel ρ (tm.get i) (tmps.getD i undef)) : ∀ {rs : List ResultVar} {l : List AV}, (resB P rs).val tm H = some l →
    ∃ vs : List Value, (rs.mapM (resOne tmps)).run P w = .ok vs w ∧ RelL ρ l vs
  | [], l, he => by
    have he : some [] = some l := he
    cases he
    exact ⟨[], rfl, rfl⟩
  | .tmp t :: rs, l, he => by
    have e1 : resB P (.tmp t :: rs) = bx (resB P rs) fun r => .mk fun tm H => ob (r tm H) fun l => some (tm.get t :: l) := rfl
    rw [e1, bx_eq, val_mk] at he
    simp only [ob_eq_some, Option.some.injEq] at he
    obtain ⟨l', h1, rfl⟩ := he
    obtain ⟨vs, q1, q2⟩ := res_run h ht h1
    refine ⟨tmps.getD t undef :: vs, ?_, .cons (ht t) q2⟩
    rw [List.mapM_cons]
    simp only [resOne, Sem.run_bind, Sem.run_pure, Result.andThen_ok, q1]
  | .cell a t :: rs, l, he => by
    have e1 : resB P (.cell a t :: rs) = bx (resB P rs) fun r => (match partF (aggT P t) with
      | none => .mk fun _ _ => none
      | some part => .mk fun tm H => onPtr none (fun b o => ob (ob (cellsTo none H b fun _ cs => part cs o) clearA) fun v => ob (r tm H) fun l => some (v :: l)) (tm.get a)) := rfl
    rw [e1, bx_eq] at he
    cases hp : partF (aggT P t) with
    | none => rw [hp] at he; cases he
    | some part =>
      rw [hp] at he
      simp only [val_mk] at he
      obtain ⟨b, o, hb, he⟩ := onPtr_eq_some he
      simp only [ob_eq_some, Option.some.injEq] at he
      obtain ⟨v, ⟨u, hv, hu⟩, l', h1, rfl⟩ := he
      obtain ⟨vs, q1, q2⟩ := res_run h ht h1
      obtain ⟨q, hq, hp'⟩ := part_some hp
      obtain ⟨e, cs, hc, hv⟩ := cellsTo_eq_some.1 hv
      have hr := ht a
      rw [hb] at hr
      obtain ⟨lc, hl, hx'⟩ := rel_ptr hr
      obtain ⟨v', h2, h3⟩ := part_row (w := w) hp' hq ((h.lies b _ hc).toRow hl) hv hu
      refine ⟨v' :: vs, ?_, .cons h3 q2⟩
      rw [List.mapM_cons]
      have hA : (asAddr (tmps.getD a undef)).run P w = .ok ⟨lc.blk, lc.off + o, none⟩ w := by rw [hx']; simp [asAddr]
      simp only [resOne, Sem.run_bind, hA, Sem.run_pure, Result.andThen_ok, h2, q1]

theorem results_run {ρ : Env} {H : AH} {w : World} (h : Real P ρ H w) {fn : Func} {tm : TM0} {tmps : Array Value} (ht : ∀ i, Rel ρ (tm.get i) (tmps.getD i undef)) {l : List AV} (he : (resB P fn.results.toList).val tm H = some l) :
    ∃ v, (results fn tmps).run P w = .ok v w ∧ Rel ρ (tupA l) v := by
  obtain ⟨vs, h1, h2⟩ := res_run h ht he
  refine ⟨if h : vs.toArray.size = 1 then vs.toArray[0] else .tuple vs.toArray, ?_, ?_⟩
  · rw [results_eq]
    rw [Array.mapM_eq_mapM_toList, Sem.run_bind, map_eq_pure_bind, Sem.run_bind, h1]
    simp only [Result.andThen_ok, Sem.run_pure]
  · cases l with
    | nil => cases h2; exact ⟨[], rfl, rfl⟩
    | cons x l =>
      obtain ⟨y, ys, rfl, r1, r2⟩ := h2
      cases l with
      | nil => cases r2; exact r1
      | cons x2 l =>
        obtain ⟨y2, ys2, rfl, r3, r4⟩ := r2
        have : ¬ ((y :: y2 :: ys2).toArray.size = 1) := by simp
        rw [dif_neg this]
        exact ⟨_, rfl, .cons r1 (.cons r3 r4)⟩

/-- The marks are shut; the results are read. -/
theorem leaves_run {fn : Func} {tm : TM0} {tmps : Array Value} {n : Nat} {l : List AV} {Hend : AH} {R : Ending → World → Prop} : ∀ (mk : List Nat) (ds : List Deferred) (ρ : Env) (H : AH) (w : World), Real P ρ H w → MarksR ρ mk ds → closeMarks mk H = some Hend →
    (∀ i, Rel ρ (tm.get i) (tmps.getD i undef)) → (resB P fn.results.toList).val tm Hend = some l → (∀ v w', Rel ρ (tupA l) v → Good none P ρ H w ρ Hend w' → R (.returned v) w') → LeavesInM Fence.wide n P fn tmps R ds .returning w
  | [], ds, ρ, H, w, hr, hm, hc, ht, he, hR => by
    cases hm
    cases hc
    obtain ⟨v, h1, h2⟩ := results_run hr ht he
    exact ⟨v, h1, hR v w h2 hr.good⟩
  | d :: mk, ds, ρ, H, w, hr, hm, hc, ht, he, hR => by
    obtain ⟨ld, r, hl, rfl, hm⟩ := hm
    simp only [closeMarks] at hc
    split at hc
    · rename_i hg
      rw [AH.putTo_eq] at hc
      obtain ⟨l2, q1, q2⟩ := hr.lies d _ hg
      rw [hl] at q1; cases q1
      have hlt : ld.blk < w.heap.size := (Array.getElem?_eq_some_iff.1 q2).1
      have gd : Good none P ρ H w ρ (H.put d none) { w with heap := w.heap.setIfInBounds ld.blk (.deferred none) } :=
        hr.drop (by rw [hg]; simp) hl (by simp) (fun k hk => by simp [Array.getElem?_setIfInBounds_ne (Ne.symm hk)]) rfl rfl rfl
      refine ⟨by simp, .inl ⟨ld.blk, { w with heap := w.heap.setIfInBounds ld.blk (.deferred none) }, rfl, ?_, ?_⟩⟩
      · simp [Instr.takeDeferred, getObj, setObj, Sem.run, q2]
      · exact leaves_run mk r ρ _ _ gd.real hm hc ht he fun v w' h1 h2 => hR v w' h1 (gd.trans h2)
    · cases hc

theorem fun_wp {call : CallF} {round : RoundF} (hcx : CxOk P call round) (hm : P.follows .mixedOrders = true) (hreg : ∀ c, InProg P c → regsOk P c = true) {f : FuncId} {k : Nat} {args : List AV} {H : AH} {v : AV} {H' : AH}
    (he : (funB P f).val call round k args H = some (v, H')) {args' : Array Value} {ρ : Env} {w : World} (hr : Real P ρ H w) (ha : RelL ρ args args'.toList) (n : Nat) : CallsIn Fence.wide n P f args' w (Ret P ρ H w v H') := by
  unfold funB at he
  rw [br_eq] at he
  split at he
  case isFalse => cases he
  split at he
  · cases he
  · rename_i fn hf
    split at he
    · cases he
    · rename_i c hb
      rw [br_eq] at he
      split at he
      · rename_i hok
        simp only [bx_eq, val_mk, br_some_none, Nat.ble_eq] at he
        obtain ⟨hle, he⟩ := he
        unfold leaveA at he
        have main : ∀ e tm' Hb mk, (codeB P c).val ⟨call, round, k, f, none⟩ (putAll args 0 (TM0.full (depthOf (fn.ntmps + 1) fn.ntmps))) H [] = .ok e tm' Hb mk → (∀ id, e ≠ .exit id) →
            (∃ He, closeMarks mk Hb = some He ∧ ∃ l, (resB P fn.results.toList).val tm' He = some l ∧ v = tupA l ∧ He = H') → CallsIn Fence.wide n P f args' w (Ret P ρ H w v H') := by
          rintro e tm' Hb mk hc hne ⟨He, hclose, l, hl, rfl, rfl⟩
          refine callsIn_of_wp_marks (F := Fence.wide) hf hb trivial ?_ rfl
          refine code_wp (cx := ⟨call, round, k, f, none⟩) (ro := none) hcx hm hreg (fun _ => rfl) c (.body hf hb) hok hc hr (start_rel ha hle) rfl fun ρ' a' w' g t m => ?_
          have fin := leaves_run (n := n) (R := Ret P ρ H w (tupA l) He) mk a'.defers ρ' Hb w' g.real m hclose t.rel hl fun v w2 h1 h2 => ⟨ρ', h1, g.trans h2⟩
          cases e with
          | normal => exact fin
          | exit id => exact absurd rfl (hne id)
          | ret => exact fin
        split at he
        · cases he
        · cases he
        · rename_i e tm' Hb mk hne hc
          simp only [ob_eq_some, Option.some.injEq, Prod.mk.injEq] at he
          obtain ⟨He, h1, l, h2, h3, h4⟩ := he
          exact main e tm' Hb mk hc (fun id q => hne id (by rw [q])) ⟨He, h1, l, h2, h3.symm, h4⟩
      · cases he

end Go.Ab
