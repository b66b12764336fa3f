/- Each operation, evaluated, is what the operation does (eighth part: the other builtins, calls). -/
import Derived.Test.YtoafnnphjbdedaaGreatDoorAbL
namespace Go.Ab
variable {P : Program} {ρ : Env} {H : AH} {w : World} {at_ : Option Nat} {W : Tmp → Prop}

theorem s_copy (h : Real P ρ H w) {dt ty : TypeId} {ts : Array TypeId} {f : AV → AV → AH → Option Nat → Option Out} {d s : AV} {d' s' : Value} {out : Out} (h0 : ts[0]? = some dt) (hf : copyF P dt = some f)
    (hd : Rel ρ d d') (hs : Rel ρ s s') (he : f d s H at_ = some out) : OpRes at_ P ρ H w out ((do pure (Next.value (← Builtin.copy_ ts ty #[d', s'])) : Sem Next).run P w) := by
  unfold copyF at hf
  split at hf
  · cases hf
  · rename_i e hsl
    have hu := slT_some hsl
    split at hf
    · cases hf
    · rename_i sz hsz
      cases hf
      simp only [ob_eq_some] at he
      obtain ⟨n, hn, he⟩ := he
      have ln := len_run (P := P) (w := w) hn hs
      have zero : sliceCells H sz 0 s = some [] := by
        unfold lenA at hn
        split at hn
        · rename_i p _ _ _
          rcases p with _ | ⟨b, o⟩ <;> simp [sliceCells, br_eq]
        · simp [sliceCells, br_eq]
        · simp [sliceCells]
        · cases hn
      obtain ⟨vs0, z1, z2, -, -⟩ := cells_run h zero hs
      cases z2
      have a0 : (#[d', s'] : Array Value)[0]? = some d' := rfl
      have a1 : (#[d', s'] : Array Value)[1]? = some s' := rfl
      split at he
      · rename_i len cp ex
        rw [br_some_none, Nat.beq_eq] at he
        obtain ⟨rfl, he⟩ := he
        cases he
        have hd' := rel_nilSlice hd
        subst hd'
        exact .pure h (v' := .int .i64 0) (by simp [Builtin.copy_, h0, run_und hu, ln, run_size hsz, z1, goInt]) rfl
      · rename_i b o len cp ex
        simp only [ob_eq_some, Option.some.injEq] at he
        obtain ⟨cs, hc, H', hw, rfl⟩ := he
        obtain ⟨vs, c1, c2, c3, c4⟩ := cells_run h hc hs
        obtain ⟨l, hl, rfl⟩ := rel_slice hd
        obtain ⟨w', w1, w2⟩ := h.write hw hl c2 c4
        refine ⟨ρ, .int .i64 (Nat.min n len : Nat), w', ?_, rfl, w2⟩
        simp [Builtin.copy_, h0, run_und hu, ln, run_size hsz, goInt]
        simp [c1, w1]
      · obtain ⟨l, aa, cp, hl, rfl, hcp⟩ := rel_tail hd
        cases he
        exact .pure h (v' := .int .i64 0) (by simp [Builtin.copy_, h0, run_und hu, ln, run_size hsz, z1, goInt, storeCells]) rfl
      · cases he

theorem s_clear (h : Real P ρ H w) {t ty : TypeId} {ts : Array TypeId} {f : AV → AH → Option Out} {x : AV} {x' : Value} {out : Out} (h0 : ts[0]? = some t) (hf : clearF P t = some f)
    (hx : Rel ρ x x') (he : f x H = some out) : OpRes at_ P ρ H w out ((do pure (Next.value (← Builtin.clear_ ts ty #[x'])) : Sem Next).run P w) := by
  unfold clearF at hf
  split at hf
  · rename_i e hu
    simp only [ob2_eq_some, Option.some.injEq] at hf
    obtain ⟨sz, z, hel, rfl⟩ := hf
    obtain ⟨hsz, ⟨zv, hz, rfl⟩, hlen, hone⟩ := elT_some hel
    obtain ⟨zv', hzv, hzr⟩ := run_zero (ρ := ρ) (w := w) hz
    simp only at he
    split at he
    · cases he
      have hx' := rel_nilSlice hx
      subst hx'
      exact .pure h (v' := .tuple #[]) (by simp [Builtin.clear_, h0, run_und hu]) ⟨[], rfl, rfl⟩
    · rename_i b o n cp ex
      simp only [ob_eq_some, Option.some.injEq] at he
      obtain ⟨H', hw, rfl⟩ := he
      obtain ⟨l, hl, rfl⟩ := rel_slice hx
      obtain ⟨w', w1, w2⟩ := h.write hw hl (reps_rel hzr.parts n) (reps_one _ _ hone)
      refine ⟨ρ, .tuple #[], w', ?_, ⟨[], rfl, rfl⟩, w2⟩
      cases n with
      | zero =>
        simp [storeCells] at w1
        simp [Builtin.clear_, h0, run_und hu, w1]
      | succ n => simp [Builtin.clear_, h0, run_und hu, hzv, zeros_list, w1]
    · obtain ⟨l, aa, cp, hl, rfl, hcp⟩ := rel_tail hx
      cases he
      exact .pure h (v' := .tuple #[]) (by simp [Builtin.clear_, h0, run_und hu]) ⟨[], rfl, rfl⟩
    · cases he
  · rename_i hu
    cases hf
    simp only at he
    split at he
    · cases he
      have hx' := rel_nilMap hx
      subst hx'
      exact .pure h (v' := .tuple #[]) (by simp [Builtin.clear_, h0, run_und hu]) ⟨[], rfl, rfl⟩
    · rename_i b
      simp only [mpTo_eq_some, AH.putTo_eq, Option.some.injEq] at he
      obtain ⟨es, clk, h1, rfl⟩ := he
      obtain ⟨l, hl, rfl⟩ := rel_map hx
      obtain ⟨l', es', g1, g2, g3⟩ := h.lies b _ h1
      rw [hl] at g1; cases g1
      obtain ⟨w', s1, s2⟩ := h.setMap (es := []) (es' := #[]) (clk := clk) h1 hl rfl
      exact ⟨ρ, .tuple #[], w', by simp [Builtin.clear_, h0, run_und hu, run_getMap g2, s1], ⟨[], rfl, rfl⟩, s2⟩
    · cases he
  · cases hf

theorem s_delete (h : Real P ρ H w) {t ty : TypeId} {ts : Array TypeId} {f : AV → AV → AH → Option Out} {m k : AV} {m' k' : Value} {out : Out} (h0 : ts[0]? = some t) (hf : deleteF P t = some f)
    (hm : Rel ρ m m') (hk : Rel ρ k k') (he : f m k H = some out) : OpRes at_ P ρ H w out ((do pure (Next.value (← Builtin.delete_ ts ty #[m', k'])) : Sem Next).run P w) := by
  simp only [deleteF, ob2_eq_some, ob_eq_some, Option.some.injEq] at hf
  obtain ⟨kt, et, hmt, kok, hkt, rfl⟩ := hf
  have hu := mapT_some hmt
  rw [br_some_none] at he
  obtain ⟨hkok, he⟩ := he
  obtain ⟨d, hd, hko⟩ := keyT_some hkt hkok
  have ck : ∀ e, (Instr.checkKey e 10000 kt k').run P w = .ok () w := fun e => check_run e 9999 hd hko hk
  have a0 : (#[m', k'] : Array Value)[0]? = some m' := rfl
  have a1 : (#[m', k'] : Array Value)[1]? = some k' := rfl
  split at he
  · cases he
    have hm' := rel_nilMap hm
    subst hm'
    exact .pure h (v' := .tuple #[]) (by simp [Builtin.delete_, h0, run_und hu, ck]) ⟨[], rfl, rfl⟩
  · rename_i b
    simp only [ob_eq_some, Option.some.injEq] at he
    obtain ⟨H', hdl, rfl⟩ := he
    unfold mapDel at hdl
    simp only [mpTo_eq_some, ob_eq_some] at hdl
    obtain ⟨es, clk, h1, r, hr, hdl⟩ := hdl
    obtain ⟨l, hl, rfl⟩ := rel_map hm
    obtain ⟨l', es', g1, g2, g3⟩ := h.lies b _ h1
    rw [hl] at g1; cases g1
    rcases find_run hko hk es es' 0 r g3 hr with ⟨rfl, hn⟩ | ⟨j, v1, v1', rfl, hn, hr', -⟩
    · simp only [AH.putTo_eq, Option.some.injEq] at hdl
      subst hdl
      obtain ⟨w', s1, s2⟩ := h.setMap (es' := es'.toArray) (clk := clk) h1 hl g3
      exact ⟨ρ, .tuple #[], w', by simp [Builtin.delete_, h0, run_und hu, run_getMap g2, ck, key_run hd hn, s1], ⟨[], rfl, rfl⟩, s2⟩
    · simp only [AH.putTo_eq, Option.some.injEq] at hdl
      subst hdl
      have hre : RelEs ρ (es.eraseIdx (0 + j)) (es'.toArray.eraseIdxIfInBounds (0 + j)).toList := by
        have e : (es'.toArray.eraseIdxIfInBounds (0 + j)).toList = es'.eraseIdx (0 + j) := by simp
        rw [e]; exact g3.erase _
      obtain ⟨w', s1, s2⟩ := h.setMap (clk := clk) h1 hl hre
      refine ⟨ρ, .tuple #[], w', ?_, ⟨[], rfl, rfl⟩, s2⟩
      simp at s1
      simp [Builtin.delete_, h0, run_und hu, run_getMap g2, ck, key_run hd hn, s1]
  · cases he

theorem s_len (h : Real P ρ H w) {t ty : TypeId} {ts : Array TypeId} {f : AV → AH → Option AV} {x v : AV} {x' : Value} (h0 : ts[0]? = some t) (hf : lenF P t = some f)
    (hx : Rel ρ x x') (he : f x H = some v) : ∃ v', (Builtin.len_ ts ty #[x']).run P w = .ok v' w ∧ Rel ρ v v' := by
  unfold lenF at hf
  split at hf
  · rename_i hu
    cases hf
    simp only at he
    split at he
    · cases he
      rw [rel_str hx]
      rename_i b
      exact ⟨.int .i64 (⟨b.toArray⟩ : ByteArray).size, by simp [Builtin.len_, h0, run_und hu, goInt], by show Value.int _ _ = _; simp [ByteArray.size]⟩
    · cases he
  · rename_i hu
    cases hf; cases he
    exact ⟨_, by simp [Builtin.len_, h0, run_und hu, goInt], rfl⟩
  · rename_i arr hu
    split at hf
    · rename_i n e hu2
      cases hf; cases he
      exact ⟨_, by simp [Builtin.len_, h0, run_und hu, run_und hu2, goInt], rfl⟩
    · cases hf
  · rename_i hu
    cases hf
    simp only at he
    split at he
    · rename_i p n c ex
      cases he
      have : ∃ b c', x' = .slice b n c' := by
        rcases p with _ | ⟨b, o⟩
        · exact ⟨_, _, hx⟩
        · obtain ⟨l, _, h2⟩ := rel_slice hx; exact ⟨_, _, h2⟩
      obtain ⟨b, c', rfl⟩ := this
      exact ⟨_, by simp [Builtin.len_, h0, run_und hu, goInt], rfl⟩
    · cases he
      obtain ⟨l, aa, cp, hl, rfl, hcp⟩ := rel_tail hx
      exact ⟨_, by simp [Builtin.len_, h0, run_und hu, goInt], rfl⟩
    · cases he
  · rename_i hu
    cases hf
    simp only at he
    split at he
    · cases he
      have hx' := rel_nilMap hx
      subst hx'
      exact ⟨_, by simp [Builtin.len_, h0, run_und hu, goInt], rfl⟩
    · rename_i b
      simp only [mpTo_eq_some, Option.some.injEq] at he
      obtain ⟨es, clk, h1, rfl⟩ := he
      obtain ⟨l, hl, rfl⟩ := rel_map hx
      obtain ⟨l', es', g1, g2, g3⟩ := h.lies b _ h1
      rw [hl] at g1; cases g1
      refine ⟨.int .i64 es'.length, by simp [Builtin.len_, h0, run_und hu, run_getMap g2, goInt], ?_⟩
      show Value.int _ _ = _
      rw [g3.length]; rfl
    · cases he
  · cases hf

theorem s_cap {t ty : TypeId} {ts : Array TypeId} {f : AV → Option AV} {x v : AV} {x' : Value} (h0 : ts[0]? = some t) (hf : capF P t = some f)
    (hx : Rel ρ x x') (he : f x = some v) : ∃ v', (Builtin.cap_ ts ty #[x']).run P w = .ok v' w ∧ Rel ρ v v' := by
  unfold capF at hf
  split at hf
  · rename_i hu
    cases hf; cases he
    exact ⟨_, by simp [Builtin.cap_, h0, run_und hu, goInt], rfl⟩
  · rename_i arr hu
    split at hf
    · rename_i n e hu2
      cases hf; cases he
      exact ⟨_, by simp [Builtin.cap_, h0, run_und hu, run_und hu2, goInt], rfl⟩
    · cases hf
  · rename_i hu
    cases hf
    simp only at he
    split at he
    · rename_i p n c
      cases he
      have : ∃ b, x' = .slice b n c := by
        rcases p with _ | ⟨b, o⟩
        · exact ⟨_, hx⟩
        · obtain ⟨l, _, h2⟩ := rel_slice hx; exact ⟨_, by simpa using h2⟩
      obtain ⟨b, rfl⟩ := this
      exact ⟨_, by simp [Builtin.cap_, h0, run_und hu, goInt], rfl⟩
    · cases he
  · cases hf

/-! min, max. -/
theorem min2_run {x y v : AV} {x' y' : Value} (h : min2A x y = some v) (hx : Rel ρ x x') (hy : Rel ρ y y') : ∃ v', (Builtin.min2 x' y').run P w = .ok v' w ∧ Rel ρ v v' := by
  obtain ⟨k, n, k', m, rfl, rfl, h⟩ := onInts_some h
  cases h
  rw [rel_int hx, rel_int hy]
  refine ⟨_, rfl, ?_⟩
  show Value.int _ _ = _
  rw [br_eq, ltZ_eq]
  simp only [decide_eq_true_eq]
theorem max2_run {x y v : AV} {x' y' : Value} (h : max2A x y = some v) (hx : Rel ρ x x') (hy : Rel ρ y y') : ∃ v', (Builtin.max2 x' y').run P w = .ok v' w ∧ Rel ρ v v' := by
  obtain ⟨k, n, k', m, rfl, rfl, h⟩ := onInts_some h
  cases h
  rw [rel_int hx, rel_int hy]
  refine ⟨_, rfl, ?_⟩
  show Value.int _ _ = _
  rw [br_eq, ltZ_eq]
  simp only [decide_eq_true_eq, gt_iff_lt]
theorem fold_run {f : AV → AV → Option AV} {g : Value → Value → Sem Value} (hfg : ∀ {x y v x' y'}, f x y = some v → Rel ρ x x' → Rel ρ y y' → ∃ v', (g x' y').run P w = .ok v' w ∧ Rel ρ v v') :
    ∀ {ys : List AV} {ys' : List Value} {x v : AV} {x' : Value}, foldA f x ys = some v → Rel ρ x x' → RelL ρ ys ys' → ∃ v', (ys'.foldlM g x').run P w = .ok v' w ∧ Rel ρ v v'
  | [], _, x, v, x', h, hx, hy => by cases hy; cases h; exact ⟨x', rfl, hx⟩
  | y :: ys, _, x, v, x', h, hx, ⟨y', ys', e, h1, h2⟩ => by
    subst e
    simp only [foldA, ob_eq_some] at h
    obtain ⟨z, hz, h⟩ := h
    obtain ⟨z', hz', hr⟩ := hfg hz hx h1
    obtain ⟨v', h3, h4⟩ := fold_run hfg h hr h2
    exact ⟨v', by simp [List.foldlM, hz', h3], h4⟩


section ops
variable {tm : TM0} {a : Act} {out : Out} {dst : Option Tmp} {type : TypeId} {pos : String} {after : Array Edge} {guard : Option (Nat × Bool)}

theorem res_unary (h : Real P ρ H w) {v : AV} {s : Sem Value} {r : Sem Next} (hs : ∃ v', s.run P w = .ok v' w ∧ Rel ρ v v') (hr : r = (do Pure.pure (Next.value (← s)))) : OpRes at_ P ρ H w (.val v H) (r.run P w) := by
  obtain ⟨v', h1, h2⟩ := hs
  subst hr
  exact .pure h (v' := v') (by simp [h1]) h2

theorem s_fold (h : At P ρ H w tm a W) {f : AV → AV → Option AV} {g : Value → Value → Sem Value} (hfg : ∀ {x y v x' y'}, f x y = some v → Rel ρ x x' → Rel ρ y y' → ∃ v', (g x' y').run P w = .ok v' w ∧ Rel ρ v v') {xs : List Operand} (hx : ∀ x ∈ xs, OkW P W x)
    (he : (oFold f xs).val tm H at_ = some out) : ∃ x ys v v', xs = x :: ys ∧ out = .val v H ∧ ((ys.map a.eval).foldlM g (a.eval x)).run P w = .ok v' w ∧ Rel ρ v v' := by
  have gen : ∀ x ys v, (∀ y ∈ x :: ys, OkW P W y) → foldA f (opd tm x) (ys.map (opd tm)) = some v → ∃ v', ((ys.map a.eval).foldlM g (a.eval x)).run P w = .ok v' w ∧ Rel ρ v v' := by
    intro x ys v hok hv
    exact fold_run hfg hv (h.opd (hok x (by simp))) (h.opds fun y hy => hok y (by simp [hy]))
  unfold oFold at he
  split at he
  · rename_i x y
    simp only [bx_eq, val_mk, opdB_val, vO_eq_some] at he
    obtain ⟨v, hv, rfl⟩ := he
    obtain ⟨v', h1, h2⟩ := gen x [y] v hx (by simp [foldA, hv])
    exact ⟨x, [y], v, v', rfl, rfl, h1, h2⟩
  · rename_i x ys _
    simp only [bx_eq, val_mk, opdB_val, argsB_val, vO_eq_some] at he
    obtain ⟨v, hv, rfl⟩ := he
    obtain ⟨v', h1, h2⟩ := gen x ys v hx hv
    exact ⟨x, ys, v, v', rfl, rfl, h1, h2⟩
  · simp [dead] at he

theorem s_builtin (h : At P ρ H w tm a W) (ha : AtOk ρ H at_) {c : Call} {b : Builtin} (hc : c.callee = .builtin b) (hx : ∀ x ∈ c.args.toList, OkW P W x) (he : (builtinF P b c.argTypes.toList c.args.toList).val tm H at_ = some out) :
    OpRes at_ P ρ H w out ((execOp a.eval ⟨dst, .call c, type, pos, after, guard⟩).run P w) := by
  obtain ⟨callee, args, ts⟩ := c
  simp only at hc
  subst hc
  have hargs : ∀ l, args.toList = l → args = l.toArray := fun l e => by rw [← e]
  have hts : ∀ t l, ts.toList = t :: l → ts[0]? = some t := fun t l e => by rw [← Array.getElem?_toList, e]; rfl
  have hts1 : ∀ t u l, ts.toList = t :: u :: l → ts[1]? = some u := fun t u l e => by rw [← Array.getElem?_toList, e]; rfl
  simp only at he
  unfold builtinF at he
  split at he
  · rename_i st xt _ s x e1 e2
    obtain rfl := hargs _ e2
    simp only [bx_eq] at he
    have rs := h.opd (hx s (by simp))
    have rx := h.opd (hx x (by simp))
    unfold oArgs2 at he
    split at he
    · simp [dead] at he
    · rename_i f hf
      simp only [val_mk, opdB_val] at he
      unfold appendF at hf
      split at hf
      · cases hf
      · rename_i e hsl
        split at hf
        · rename_i sz z by_ xd hel hby hxd
          obtain ⟨i, hi, hib⟩ := byOf_some hby
          obtain ⟨i', hi', hsz⟩ := szOf_some (elT_some hel).1
          rw [hi] at hi'; cases hi'
          have goal : ∃ n new, NewOf H (sz + 1) (by_ + 1) z (some xd) (opd tm x) = some (n, new) ∧ appendTo e (sz + 1) (by_ + 1) (opd tm s) n new H at_ = some out := by
            rw [br_eq] at hf
            split at hf
            · rename_i hq
              cases hf
              obtain ⟨n, new, q1, q2⟩ := ob2_eq_some.1 he
              exact ⟨n, new, by simp only [NewOf, hq, br_true]; exact q1, q2⟩
            · rename_i hq
              cases hf
              obtain ⟨n, new, q1, q2⟩ := ob2_eq_some.1 he
              have hq : isInt (some xd) = false := by simpa using hq
              exact ⟨n, new, by simp only [NewOf, hq, br_false]; exact q1, q2⟩
          obtain ⟨n, new, q1, q2⟩ := goal
          have := s_appendTo (ty := type) h.real ha (hts _ _ e1) (hts1 _ _ _ e1) (slT_some hsl) (by omega) (by omega) hel hi hib hsz hxd q1 rs rx q2
          simpa [execOp, resolve, invoke, builtin] using this
        · cases hf
  · rename_i dt _ d s e1 e2
    obtain rfl := hargs _ e2
    simp only [bx_eq] at he
    have rd := h.opd (hx d (by simp))
    have rs := h.opd (hx s (by simp))
    unfold oArgs2 at he
    split at he
    · simp [dead] at he
    · rename_i f hf
      simp only [val_mk, opdB_val] at he
      have := s_copy (ty := type) h.real (hts _ _ e1) hf rd rs he
      simpa [execOp, resolve, invoke, builtin] using this
  · rename_i t _ x e1 e2
    obtain rfl := hargs _ e2
    simp only [bx_eq] at he
    have rx := h.opd (hx x (by simp))
    unfold oArgs1 at he
    split at he
    · simp [dead] at he
    · rename_i f hf
      simp only [val_mk, opdB_val] at he
      have := s_clear (at_ := at_) (ty := type) h.real (hts _ _ e1) hf rx he
      simpa [execOp, resolve, invoke, builtin] using this
  · rename_i t _ m k e1 e2
    obtain rfl := hargs _ e2
    simp only [bx_eq] at he
    have rm := h.opd (hx m (by simp))
    have rk := h.opd (hx k (by simp))
    unfold oArgs2d at he
    split at he
    · simp [dead] at he
    · rename_i f hf
      simp only [val_mk, opdB_val] at he
      have := s_delete (at_ := at_) (ty := type) h.real (hts _ _ e1) hf rm rk he
      simpa [execOp, resolve, invoke, builtin] using this
  · rename_i t _ x e1 e2
    obtain rfl := hargs _ e2
    simp only [bx_eq] at he
    have rx := h.opd (hx x (by simp))
    unfold oArgs1v at he
    split at he
    · simp [dead] at he
    · rename_i f hf
      simp only [val_mk, opdB_val, vO_eq_some] at he
      obtain ⟨v, hv, rfl⟩ := he
      exact res_unary h.real (s_len (ty := type) h.real (hts _ _ e1) hf rx hv) (by simp [execOp, resolve, invoke, builtin])
  · rename_i t _ x e1 e2
    obtain rfl := hargs _ e2
    simp only [bx_eq] at he
    have rx := h.opd (hx x (by simp))
    unfold oArgs1p at he
    split at he
    · simp [dead] at he
    · rename_i f hf
      simp only [val_mk, opdB_val, vO_eq_some] at he
      obtain ⟨v, hv, rfl⟩ := he
      exact res_unary h.real (s_cap (ty := type) (hts _ _ e1) hf rx hv) (by simp [execOp, resolve, invoke, builtin])
  · obtain ⟨x, ys, v, v', e2, rfl, h1, h2⟩ := s_fold h (g := Builtin.min2) (fun h1 h2 h3 => min2_run h1 h2 h3) hx he
    obtain rfl := hargs _ e2
    exact .pure h.real (v' := v') (by simp [execOp, resolve, invoke, builtin, Builtin.min_, h1]) h2
  · obtain ⟨x, ys, v, v', e2, rfl, h1, h2⟩ := s_fold h (g := Builtin.max2) (fun h1 h2 h3 => max2_run h1 h2 h3) hx he
    obtain rfl := hargs _ e2
    exact .pure h.real (v' := v') (by simp [execOp, resolve, invoke, builtin, Builtin.max_, h1]) h2
  · simp [dead] at he

/-! Calls. -/
theorem call_run {f : FuncId} (h : hasBody P f = true) (args : Array Value) : (callFunc f args).run P w = .ok (.enter f args) w := by
  unfold hasBody at h
  split at h
  · rename_i fn hf
    have h : fn.body.isSome = true ∧ (fn.name == "runtime.NumGoroutine") = false := by simpa using h
    obtain ⟨h1, h2⟩ := h
    have h3 : fn.body.isNone = false := by cases hb : fn.body <;> simp_all
    simp only [callFunc, Sem.run_bind, run_program, Result.andThen_ok, hf, h2, h3, Bool.false_eq_true, if_false, Sem.run_pure]
  · cases h

theorem follow_run {x : AV} {xt : TypeId} : ∀ (l : List FieldStep) (t : TypeId) {v : AV} {v' : Value}, followA P l t v = some (xt, x) → Rel ρ v v' → ∃ x', (follow l t (.val v')).run P w = .ok (xt, .val x') w ∧ Rel ρ x x'
  | [], t, v, v', h, r => by
    have h : some (t, v) = some (xt, x) := h
    cases h
    exact ⟨v', by simp [follow], r⟩
  | s :: rest, t, v, v', h0, r => by
    have h : br s.deref none (ob (fieldOf P s.struct s.index) fun fd => match partF (aggT P fd.type) with
      | none => none
      | some part => ob (fieldA fd.offset part v) fun x => followA P rest fd.type x) = some (xt, x) := h0
    clear h0
    simp only [br_none_some, ob_eq_some] at h
    obtain ⟨hd, fd, hf, h⟩ := h
    cases hp : partF (aggT P fd.type) with
    | none => simp [hp] at h
    | some part =>
      simp only [hp, ob_eq_some] at h
      obtain ⟨y, hy, h⟩ := h
      unfold fieldA at hy
      split at hy
      · rename_i cs
        obtain ⟨cs', rfl, hr⟩ := rel_agg r
        obtain ⟨q, hq, hp'⟩ := part_some hp
        obtain ⟨y', h1, h2⟩ := part_list (w := w) hp' hq hr hy
        obtain ⟨x', h3, h4⟩ := follow_run rest fd.type h h2
        unfold fieldOf at hf
        split at hf
        · rename_i fs hu
          refine ⟨x', ?_, h4⟩
          simp [follow, run_und hu, hf, hd, h1, h3]
        · cases hf
      · cases hy

theorem method_run {t : TypeId} {name : String} {f : FuncId} {v x : AV} (h : methodA P t name v = some (f, x)) {v' : Value} (hv : Rel ρ v v') (n : Nat) : ∃ x', (method (n + 1) t v' name).run P w = .ok (f, x') w ∧ Rel ρ x x' := by
  simp only [methodA, ob_eq_some, ob2_eq_some] at h
  obtain ⟨i, hi, m, hm, xt, y, hp, h⟩ := h
  obtain ⟨y', h1, h2⟩ := follow_run (w := w) m.path.toList t hp hv
  split at h
  · rename_i f' e hf hu
    cases h
    exact ⟨y', by simp [method, run_info hi, hm, h1, hf, receiverAt, run_und hu, Place.get], h2⟩
  · cases h
  · rename_i f' d hnp hf hu
    cases h
    have : ∀ o, (receiverAt xt (.val y') false o).run P w = .ok y' w := by
      intro o
      cases d <;> first | exact absurd rfl (hnp _) | simp [receiverAt, run_und hu, Place.get]
    exact ⟨y', by simp [method, run_info hi, hm, h1, hf, this], h2⟩
  · cases h

theorem s_call (h : At P ρ H w tm a W) (ha : AtOk ρ H at_) {c : Call} (hx : ∀ x ∈ c.operands.toList, OkW P W x) (he : (aopF P (.call c)).val tm H at_ = some out) :
    OpRes at_ P ρ H w out ((execOp a.eval ⟨dst, .call c, type, pos, after, guard⟩).run P w) := by
  simp only [aopF] at he
  have hargs : ∀ x ∈ c.args.toList, OkW P W x := fun x hm => hx x (by
    simp only [Call.operands, Array.toList_append, List.mem_append]; exact .inr hm)
  have rargs := h.opds hargs
  unfold oCall at he
  split at he
  · rename_i b hc
    exact s_builtin h ha hc hargs he
  · rename_i g hc
    simp only [bx_eq, val_mk, argsB_val, Option.some.injEq] at he
    subst he
    refine ⟨c.args.map a.eval, ?_, by simpa using rargs⟩
    have e : a.eval (.func g) = .func (.func g) #[] #[] := rfl
    simp [execOp, resolve, hc, e, Deferred.ofValue, invoke]
  · rename_i f _ hc
    have hf : OkW P W f := hx f (by simp [Call.operands, hc])
    have rf := h.opd hf
    simp only [bx_eq, val_mk, argsB_val, opdB_val] at he
    unfold callV at he
    split at he
    · rename_i g first cap e
      rw [e] at rf
      obtain ⟨fs, cs, e1, r1, r2⟩ := rf
      cases he
      refine ⟨fs.toArray ++ c.args.map a.eval ++ cs.toArray, ?_, ?_⟩
      · simp [execOp, resolve, hc, e1, Deferred.ofValue, invoke]
      · simpa using (r1.append rargs).append r2
    · rename_i l e
      rw [e] at rf
      obtain ⟨q, hq, e1⟩ := rf
      cases he
      refine ⟨q, c.args.map a.eval, hq, by simpa using rargs, ?_⟩
      simp [execOp, resolve, hc, e1, Deferred.ofValue, invoke]
    · cases he
  · rename_i r name hc
    have hr : OkW P W r := hx r (by simp [Call.operands, hc])
    have rr := h.opd hr
    simp only [bx_eq, val_mk, argsB_val, opdB_val] at he
    unfold callI at he
    split at he
    · rename_i t v e
      rw [e] at rr
      obtain ⟨v', e1, rv⟩ := rr
      simp only [ob2_eq_some, Option.some.injEq] at he
      obtain ⟨f, x, hm, rfl⟩ := he
      obtain ⟨x', hm', rx⟩ := method_run (P := P) (w := w) hm rv (P.types.size + 99)
      refine ⟨#[x'] ++ c.args.map a.eval, ?_, ?_⟩
      · have h0 : (#[Value.iface t v'] ++ Array.map a.eval c.args)[0]? = some (.iface t v') := by
          rw [Array.getElem?_append_left (by simp)]; rfl
        have hd : P.types.size + Made.depth = (P.types.size + 99) + 1 := rfl
        rw [← hd] at hm'
        have hex : (Array.map a.eval c.args).extract 0 c.args.size = Array.map a.eval c.args := by
          have : c.args.size = (Array.map a.eval c.args).size := by simp
          rw [this, Array.extract_size]
        simp [execOp, resolve, hc, e1, invoke, h0, callMethod, hm', hex]
      · exact (show RelL ρ (x :: _) _ from by simpa using RelL.cons rx rargs)
    · cases he

/-- An operation, evaluated, is what the operation does. -/
theorem aop_sound (h : At P ρ H w tm a W) (ha : AtOk ρ H at_) {op : Op} (hW : ∀ t, .tmp t ∈ op.operands.toList → W t) (he : (aop P op).val tm H at_ = some out) : OpRes at_ P ρ H w out ((execOp a.eval ⟨dst, op, type, pos, after, guard⟩).run P w) := by
  have hok : (∀ x ∈ op.operands.toList, OkW P W x) ∧ (aopF P op).val tm H at_ = some out := by
    unfold aop at he
    rw [br_eq] at he
    split at he
    · rename_i hq
      rw [allB_eq] at hq
      exact ⟨fun x hm => ⟨List.all_eq_true.1 hq x hm, fun t e => hW t (e ▸ hm)⟩, he⟩
    · simp [dead] at he
  obtain ⟨hx, hf⟩ := hok
  clear he
  cases op with
  | move x => exact s_move h (hx x (by simp [Op.operands])) (.inl rfl) hf
  | assign x => exact s_move h (hx x (by simp [Op.operands])) (.inr rfl) hf
  | pick c x y => exact s_pick h (hx c (by simp [Op.operands])) (hx x (by simp [Op.operands])) (hx y (by simp [Op.operands])) hf
  | alloc e => exact s_alloc h ha hf
  | box e x => exact s_box h ha (hx x (by simp [Op.operands])) hf
  | build t ps => exact s_build h (fun x hm => hx x.2 (by simp only [Op.operands]; exact List.mem_map_of_mem hm)) hf
  | buildSlice t n ps => exact s_buildSlice h ha (fun x hm => hx x.2 (by simp only [Op.operands]; exact List.mem_map_of_mem hm)) hf
  | load t x => exact s_load h (hx x (by simp [Op.operands])) hf
  | store t x y => exact s_store h (hx x (by simp [Op.operands])) (hx y (by simp [Op.operands])) hf
  | nilCheck x => exact s_nilCheck h (hx x (by simp [Op.operands])) hf
  | binOp o t x y _ => exact s_binOp h (hx x (by simp [Op.operands])) (hx y (by simp [Op.operands])) hf
  | unOp o t x => exact s_unOp h (hx x (by simp [Op.operands])) hf
  | convert s d x => exact s_convert h ha (hx x (by simp [Op.operands])) hf
  | makeInterface t x => exact s_iface h (hx x (by simp [Op.operands])) hf
  | makeFunc f xs ys => exact s_func h (fun x hm => hx x (by simp only [Op.operands, Array.toList_append, List.mem_append]; exact .inl hm)) (fun x hm => hx x (by simp only [Op.operands, Array.toList_append, List.mem_append]; exact .inr hm)) hf
  | makeMap t r => exact s_makeMap h ha hf
  | makeSlice t x y => exact s_makeSlice h ha (hx x (by simp [Op.operands])) (hx y (by simp [Op.operands])) hf
  | slice t x lo hi mx => exact s_slice h (hx x (by simp [Op.operands])) (fun y e => hx y (by simp [Op.operands, e])) (fun y e => hx y (by simp [Op.operands, e])) (fun y e => hx y (by simp [Op.operands, e])) hf
  | fieldAddr s x f => exact s_fieldAddr h (hx x (by simp [Op.operands])) hf
  | field s x f => exact s_field h (hx x (by simp [Op.operands])) hf
  | indexAddr t x y => exact s_indexAddr h (hx x (by simp [Op.operands])) (hx y (by simp [Op.operands])) hf
  | index t x y => exact s_index h (hx x (by simp [Op.operands])) (hx y (by simp [Op.operands])) hf
  | lookup t x y ok => exact s_lookup h (hx x (by simp [Op.operands])) (hx y (by simp [Op.operands])) hf
  | mapUpdate t m k x => exact s_mapUpdate h (.inl rfl) (hx m (by simp [Op.operands])) (hx k (by simp [Op.operands])) (hx x (by simp [Op.operands])) hf
  | insert t m k x => exact s_mapUpdate h (.inr rfl) (hx m (by simp [Op.operands])) (hx k (by simp [Op.operands])) (hx x (by simp [Op.operands])) hf
  | typeAssert x xt t ok => exact s_assert h (hx x (by simp [Op.operands])) hf
  | extract x i => exact s_extract h (hx x (by simp [Op.operands])) hf
  | call c => exact s_call h ha hx hf
  | _ => simp [aopF, dead] at hf

end ops
end Go.Ab
