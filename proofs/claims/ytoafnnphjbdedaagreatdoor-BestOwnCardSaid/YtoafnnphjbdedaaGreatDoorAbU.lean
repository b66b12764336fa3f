/- A drawn region, whatever its order: the steps, and the whole. -/
import Derived.Test.YtoafnnphjbdedaaGreatDoorAbT
namespace Go.Ab
variable {P : Program}

theorem overlay (ids : Nat → Nat) (X : Nat → ABlk → Prop) (hinj : ∀ f x f' x', X f x → X f' x' → ids f = ids f' → f = f') (hfun : ∀ f x x', X f x → X f x' → x = x') (G : AH) : ∀ n, ∃ H2 : AH, H2.next = G.next ∧
    (∀ b x, H2.get b = some x → G.get b = some x ∨ ∃ f, f < n ∧ b = ids f ∧ X f x) ∧ (∀ f x, f < n → X f x → H2.get (ids f) = some x) ∧ ∀ b x, G.get b = some x → (∀ f y, f < n → X f y → b ≠ ids f) → H2.get b = some x
  | 0 => ⟨G, rfl, fun b x h => .inl h, fun f x h => absurd h (Nat.not_lt_zero _), fun b x h _ => h⟩
  | n + 1 => by
    obtain ⟨H2, h1, h2, h3, h4⟩ := overlay ids X hinj hfun G n
    by_cases hx : ∃ x, X n x
    · obtain ⟨x, hx⟩ := hx
      refine ⟨H2.put (ids n) (some x), by rw [put_next, h1], fun b y hb => ?_, fun f y hf hy => ?_, fun b y hb hno => ?_⟩
      · rw [AH.get_put] at hb
        split at hb
        · rename_i e; cases hb; exact .inr ⟨n, by omega, e, hx⟩
        · exact (h2 b y hb).imp id fun ⟨f, q1, q2⟩ => ⟨f, by omega, q2⟩
      · rw [AH.get_put]
        split
        · rename_i e
          have := hinj f y n x hy hx e
          subst this
          rw [hfun f x y hx hy]
        · rename_i e
          have hfn : f ≠ n := fun q => e (by rw [q])
          exact h3 f y (by omega) hy
      · rw [AH.get_put, if_neg (hno n x (by omega) hx)]
        exact h4 b y hb fun f z hf hz => hno f z (by omega) hz
    · refine ⟨H2, h1, fun b y hb => (h2 b y hb).imp id fun ⟨f, q1, q2⟩ => ⟨f, by omega, q2⟩, fun f y hf hy => ?_, fun b y hb hno => h4 b y hb fun f z hf hz => hno f z (by omega) hz⟩
      have hfn : f ≠ n := fun q => hx ⟨y, q ▸ hy⟩
      exact h3 f y (by omega) hy

section rc
variable {ops : Array Oper} {E : List Ins} {cx : Cx} {base N : Nat} {tm0 tmF : TM0} {H0 HF : AH}
variable {Hs : AH} {ρ0 : Env} {w0 : World} {ds : List Deferred} {S : Nat → Prop} {ρ : Env} {B : List Ins} {tmB : TM0} {G H1 : AH} {a : Act} {w : World}

theorem Adds.fun {f : Nat} {x y : ABlk} (h1 : Adds P ops E cx base tm0 H0 f x) (h2 : Adds P ops E cx base tm0 H0 f y) : x = y := by
  obtain ⟨-, o1, t1, A1, v1, G1, r1, -, e1⟩ := h1
  obtain ⟨-, o2, t2, A2, v2, G2, r2, -, e2⟩ := h2
  obtain ⟨-, -, rfl, -, rfl⟩ := r1.same r2
  rw [e1] at e2
  have := congrArg (fun K => AH.get K (idF ops base f)) e2
  simpa [AH.get_put] using this

theorem chain_float {i : Nat} (h : isChain P (opAt ops i) = true) : isFloat (opAt ops i) = false := by
  unfold isChain at h
  cases hf : isFloat (opAt ops i) with
  | false => rfl
  | true => rw [hf] at h; cases h

/-- The chain's next operation. -/
theorem Inv.link (c : RC P ops E cx base N tm0 tmF H0 HF) (h : Inv P ops E cx base N tm0 H0 Hs ρ0 w0 ds S ρ B tmB G H1 a w) {i : Nat} {o : Oper} {tmA : TM0} {HA : AH} {v : AV} {H' : AH} (r : Rcd P ops E cx base tm0 H0 i o tmA HA v H') (hi : i < ops.size)
    (hb : ∀ k, (bfAt (Region.before ops) i).testBit k = true → S k) (hc : isChain P (opAt ops i) = true) {R : List Ins} (hp : preE E i = B ++ R) (hR : ∀ k, .go k ∈ R → isChain P (opAt ops k) = false)
    (hn : HA.next = H1.next) (hs : ∀ b x, HA.get b = some x → H1.get b = some x) {ρ' : Env} {w' : World} (g : Good none P ρ HA w ρ' H' w') {v' : Value} (hv : Rel ρ' v v') :
    ∃ tmB' H2, Inv P ops E cx base N tm0 H0 Hs ρ0 w0 ds (fun j => S j ∨ j = i) ρ' (preE E i ++ [.go i]) tmB' H' H2 (a.put o.dst v') w' := by
  obtain ⟨p1, p2, p3, p4⟩ := h.put c r hi g.ev.le hv
  obtain ⟨E2, e⟩ := r.split
  have hBp : ∀ k, Ins.go k ∈ B → Ins.go k ∈ preE E i ++ [.go i] := fun k hk => by rw [hp]; simp [hk]
  have lowid : ∀ f, f < ops.size → isFloat (opAt ops f) = true → idF ops base f < HA.next := fun f hf hff => by
    have := rankF_lt ops hf hff
    have := h.low
    rw [hn, h.next]; unfold idF; omega
  have hpre : preE E i <+: E := ⟨_, e.symm⟩
  have hrunA := r.run
  rw [hp] at hpre hrunA
  obtain ⟨-, cal⟩ := c.calm h.run R tmA HA hpre hR hrunA
  -- what is not in the chain's past is not in its heap
  have deadA : ∀ f, f < ops.size → isFloat (opAt ops f) = true → .go f ∉ preE E i ++ [.go i] → HA.get (idF ops base f) = none := by
    intro f hf hff hnot
    cases hget : HA.get (idF ops base f) with
    | none => rfl
    | some z =>
      rcases cal _ z hget with q | ⟨f', q1, q2, q3⟩
      · rw [h.clean f hf hff fun q => hnot (hBp f q)] at q; cases q
      · have := idF_inj hff q3.1 q2
        subst this
        exact absurd (by rw [hp]; simp [q1]) hnot
  have unk' : ∀ f, f < ops.size → isFloat (opAt ops f) = true → (¬ S f ∨ ∀ x, ¬ Adds P ops E cx base tm0 H0 f x) → ρ' (idF ops base f) = none := fun f hf hff hq =>
    g.ev.ids _ (lowid f hf hff) (h.unk f hf hff hq) (by simp)
  have clean' : ∀ f, f < ops.size → isFloat (opAt ops f) = true → .go f ∉ preE E i ++ [.go i] → H'.get (idF ops base f) = none := by
    intro f hf hff hnot
    by_cases hq : ¬ S f ∨ ∀ x, ¬ Adds P ops E cx base tm0 H0 f x
    · exact id_dead g.real (unk' f hf hff hq)
    · have hS : S f := Classical.byContradiction fun q => hq (.inl q)
      have hA : ∃ x, Adds P ops E cx base tm0 H0 f x := Classical.byContradiction fun q => hq (.inr fun x hx => q ⟨x, hx⟩)
      obtain ⟨x, hx⟩ := hA
      have hear := h.early f x hS (fun q => hnot (hBp f q)) hx
      obtain ⟨l0, hl0⟩ := (h.good.real.lies _ x hear).loc
      have hl' := g.ev.le _ _ hl0
      cases hget : H'.get (idF ops base f) with
      | none => rfl
      | some y =>
        obtain ⟨b, l1, q1, q2, q3⟩ := g.ev.own _ l0 (by rw [hget]; simp) hl' (h.good.real.inb (by rw [hear]; simp) hl0)
        obtain ⟨z, hz⟩ := Option.ne_none_iff_exists'.1 q1
        have := h.good.real.inj b _ l1 l0 (by rw [hs b z hz]; simp) (by rw [hear]; simp) q2 hl0 q3
        subst this
        rw [deadA f hf hff hnot] at hz; cases hz
  obtain ⟨H2, o1, o2, o3, o4⟩ := overlay (idF ops base) (fun f x => S f ∧ .go f ∉ preE E i ++ [.go i] ∧ Adds P ops E cx base tm0 H0 f x)
    (fun f x f' x' h1 h2 e => idF_inj h1.2.2.1 h2.2.2.1 e) (fun f x x' h1 h2 => h1.2.2.fun h2.2.2) H' ops.size
  have hfr : Good none P ρ H1 w ρ' H2 w' := h.good.real.frame hn hs g (fun b x hb => by
    rcases o2 b x hb with q | ⟨f, q1, q2, q3, q4, q5⟩
    · exact .inl q
    · refine .inr ⟨?_, ?_⟩
      · rw [q2]; exact deadA f q1 q5.1 q4
      · rw [q2]; exact h.early f x q3 (fun q => q4 (hBp f q)) q5) o1
  refine ⟨setO o.dst v tmA, H2, ⟨E2, by rw [List.append_assoc]; exact e.symm⟩, ?_, .inr ⟨_, i, rfl, hc⟩, fun j hj => ?_, fun j hj k hk => ?_, fun j hj hjc => ?_, fun j hj hf => ?_, o1, fun b x hx => ?_, fun f x hS hfb ha => ?_, fun b x hx => ?_, clean', fun f hf hff hq => ?_, ?_, h.good.trans hfr, p1, p2, p3, p4⟩
  · rw [runE_snoc, r.run, Option.bind_some]
    simp only [insE, r.op, Option.bind_some, r.go, Option.map_some]
  · rcases hj with hj | rfl
    · exact h.mem j hj
    · exact hi
  · rcases hj with hj | rfl
    · exact .inl (h.down j hj k hk)
    · exact .inl (hb k hk)
  · constructor
    · rintro (hS | rfl)
      · exact hBp j ((h.chain j hj hjc).1 hS)
      · simp
    · intro hm
      rcases List.mem_append.1 hm with hm | hm
      · rw [hp] at hm
        rcases List.mem_append.1 hm with hm | hm
        · exact .inl ((h.chain j hj hjc).2 hm)
        · rw [hR j hm] at hjc; cases hjc
      · right; simpa using hm
  · rcases List.mem_append.1 hj with hm | hm
    · exact .inl (hb j (c.ord.chain e hc j hm (.inr hf)))
    · have : j = i := by simpa using hm
      subst this
      rw [chain_float hc] at hf; cases hf
  · refine o4 b x hx fun f y hf hX hbe => ?_
    rw [hbe, clean' f hf hX.2.2.1 hX.2.1] at hx; cases hx
  · have hS : S f := hS.resolve_right fun q => hfb (by simp [q])
    exact o3 f x (h.mem f hS) ⟨hS, hfb, ha⟩
  · exact (o2 b x hx).imp id fun ⟨f, q1, q2, q3, q4, q5⟩ => ⟨f, .inl q3, q4, q2, q5⟩
  · refine unk' f hf hff ?_
    rcases hq with hq | hq
    · exact .inl fun hS => hq (.inl hS)
    · exact .inr hq
  · have := g.ev.next
    have := h.low
    have := h.next
    omega

/-- A step, whichever operation is ready. -/
theorem Inv.step (hcx : CxOk P cx.call cx.round) (c : RC P ops E cx base N tm0 tmF H0 HF) (hsb : Hs.next ≤ base) (h : Inv P ops E cx base N tm0 H0 Hs ρ0 w0 ds S ρ B tmB G H1 a w) {i : Nat} (hi : i < ops.size) (hn : ¬ S i)
    (hb : ∀ k, (bfAt (Region.before ops) i).testBit k = true → S k) {ro : Option Nat} {n : Nat} {Q : Exit → Act → World → Prop} {rest : List Nat}
    (K : ∀ ρ' B' tmB' G' H1' a' w', Inv P ops E cx base N tm0 H0 Hs ρ0 w0 ds (fun j => S j ∨ j = i) ρ' B' tmB' G' H1' a' w' → wpOpsIn (Fr ro) n P ops Q rest a' w') : wpOpsIn (Fr ro) n P ops Q (i :: rest) a w := by
  obtain ⟨o, tmA, HA, v, H', r⟩ := c.rcd hi
  have hW1 : ∀ t, .tmp t ∈ o.op.operands.toList → t ∈ readsAt ops i := fun t ht => reads_opd r.op ht
  have hW2 : ∀ t, guardTmp ops o.guard = some t → t ∈ readsAt ops i := fun t ht => reads_guard r.op ht
  have rd : ∀ t, t ∈ readsAt ops i → Rel ρ (tmA.get t) (a.tmps.getD t undef) := fun t ht => h.readsPre c r hn hb t ht
  have at1 : ∀ {Hx : AH}, Real P ρ Hx w → At P ρ Hx w tmA a (fun t => t ∈ readsAt ops i) := fun hr => ⟨hr, rd⟩
  obtain ⟨E2, e⟩ := r.split
  by_cases hc : isChain P (opAt ops i) = true
  · -- the chain
    have hiB : .go i ∉ B := fun q => hn ((h.chain i hi hc).2 q)
    obtain ⟨R, hp, hR⟩ := h.behind c e hiB fun k hk hkc => hb k (c.ord.chain e hc k hk (.inl hkc))
    have hpre : preE E i <+: E := ⟨_, e.symm⟩
    have hrunA := r.run
    rw [hp] at hpre hrunA
    obtain ⟨n1, n2⟩ := h.seen c hpre hR hrunA
    have hs : ∀ b x, HA.get b = some x → H1.get b = some x := fun b x hx => n2 b x hx fun f hf _ hadd => hb f (c.ord.chain e hc f (by rw [hp]; simp [hf]) (.inr hadd.1))
    have hreal : Real P ρ HA w := h.good.real.sub hs (by omega)
    have hat : atE ops base i = none := by unfold atE; rw [if_neg (by rw [chain_float hc]; simp)]
    have hgo := r.go
    rw [hat] at hgo
    refine goE_wp hcx r.op (at1 hreal) (at_ := none) trivial hW1 hW2 hgo fun ρ' v' w' r1 r2 => ?_
    obtain ⟨tmB', H2, hI⟩ := h.link c r hi hb hc hp hR n1 hs r2 r1
    exact K _ _ _ _ _ _ _ hI
  · have hc : isChain P (opAt ops i) = false := by simpa using hc
    have still : ∀ {tm : TM0}, At P ρ H1 w tm a (fun t => t ∈ readsAt ops i) → goE P ops cx none o tm H1 = some (v, H1) → (∀ x, ¬ Adds P ops E cx base tm0 H0 i x) → wpOpsIn (Fr ro) n P ops Q (i :: rest) a w := by
      intro tm hat hgo hno
      refine goE_wp hcx r.op hat (at_ := none) trivial hW1 hW2 hgo fun ρ' v' w' r1 r2 => ?_
      exact K _ _ _ _ _ _ _ (h.still c r hi hb hc hno r2 r1)
    rcases goE_kind r.op hc r.go with ⟨hw, rfl, rfl⟩ | ⟨hw, hf, blk, rfl, hany⟩ | ⟨hw, hf, rfl, hok, hrest⟩
    · refine still (at1 h.good.real) ?_ ?_
      · unfold goE; rw [if_neg (by rw [hw]; simp)]
      · rintro x ⟨-, o1, t1, A1, v1, G1, r1, hq, -⟩
        obtain ⟨rfl, rfl, -⟩ := r1.same r
        rw [hw] at hq; cases hq
    · have hfree : AtOk ρ H1 (some (idF ops base i)) := by
        refine ⟨?_, h.unk i hi hf (.inl hn)⟩
        have := rankF_lt ops hi hf
        have := h.low
        rw [h.next]; unfold idF; omega
      refine goE_wp hcx r.op (at1 h.good.real) hfree hW1 hW2 (hany H1) fun ρ' v' w' r1 r2 => ?_
      exact K _ _ _ _ _ _ _ (h.float c r hi hn hb hc hf hsb ⟨hf, o, tmA, HA, v, _, r, hw, rfl⟩ r2 r1)
    · have hno : ∀ x, ¬ Adds P ops E cx base tm0 H0 i x := fun x hx => by rw [hx.1] at hf; cases hf
      rcases hrest with hany | ⟨hl, hloc⟩
      · exact still (at1 h.good.real) (hany H1 none) hno
      · by_cases hiB : .go i ∈ B
        · -- looked at again behind the chain's last
          rcases h.last with hB | ⟨B', k, hB, hkc⟩
          · rw [hB] at hiB; simp at hiB
          · have hik : i ≠ k := fun q => by rw [q, hkc] at hc; cases hc
            have hiB' : .go i ∈ B' := by rw [hB] at hiB; simpa [hik] using hiB
            obtain ⟨T, hT⟩ := h.pre
            have e2 : E = B' ++ .go k :: T := by rw [← hT, hB]; simp
            rcases c.ord.again e2 hkc i hiB' hl with q | ⟨R1, R2, hT2, hre⟩
            · have hSk : S k := (h.chain k (c.ord.go e2).1 hkc).2 (by rw [hB]; simp)
              exact absurd (h.down k hSk i q) hn
            · have e3 : E = (B ++ R1) ++ .re i :: R2 := by rw [← hT, hT2]; simp
              have keep : ∀ (R : List Ins), (∀ x ∈ R, ∃ j, x = Ins.re j) → B ++ R <+: E → runE P ops cx base (B ++ R) (tm0, H0) = some (tmB, G) := by
                intro R
                induction R using rev_ind with
                | nil => intro _ _; rw [List.append_nil]; exact h.run
                | snoc R x ih =>
                  intro hall hpx
                  rw [← List.append_assoc] at hpx ⊢
                  have h0 := ih (fun y hy => hall y (by simp [hy])) ((List.prefix_append _ [x]).trans hpx)
                  obtain ⟨s, hs⟩ := c.part hpx
                  obtain ⟨j, rfl⟩ := hall x (by simp)
                  rw [hs]
                  rw [runE_snoc, h0, Option.bind_some] at hs
                  rw [(insE_re hs).1]
              have hA : B ++ R1 <+: E := ⟨_, e3.symm⟩
              have hrunA := keep R1 hre hA
              have hre2 : B ++ R1 ++ [.re i] <+: E := ⟨R2, by rw [List.append_assoc]; exact e3.symm⟩
              obtain ⟨s, hs⟩ := c.part hre2
              rw [runE_snoc, hrunA, Option.bind_some] at hs
              obtain ⟨-, o', d, ho', hd, hv⟩ := insE_re hs
              rw [r.op] at ho'; cases ho'
              obtain ⟨-, hrew⟩ := c.ord.re e3
              have rdB : ∀ t, t ∈ readsAt ops i → Rel ρ (tmB.get t) (a.tmps.getD t undef) := fun t ht => h.reads c hA hrunA t fun y hy hdy => by
                refine ⟨fun q => hb y (hrew y q t hdy ht), fun hS => ?_⟩
                rcases c.ord.reads i y t hi hy hdy ht with rfl | q | q
                · exact absurd hS hn
                · obtain ⟨F1, F2, e4⟩ := List.append_of_mem hiB
                  have e5 : E = F1 ++ .go i :: (F2 ++ T) := by rw [← hT, e4]; simp
                  have := (c.ord.go e5).2.2 y q
                  rw [e4]; simp [this]
                · exact absurd (h.down y hS i q) hn
              have hwA := wanted_eq (ops := ops) (o := o) (tm := tmA) (tmps := a.tmps) fun t ht => rd t (hW2 t ht)
              have hwB := wanted_eq (ops := ops) (o := o) (tm := tmB) (tmps := a.tmps) fun t ht => rdB t (hW2 t ht)
              have hw2 : (guardB ops o.guard).val tmB = true := by rw [← hwB, hwA, hw]
              obtain ⟨v2, H3, hv2, hv3⟩ := hv hw2
              have hveq : v2 = v := by
                rw [hv3, ← VOf_eq r]
                exact (c.tm B tmB G h.pre h.run).1 i d hiB (by rw [opDst_of r.op, hd])
              subst hveq
              have hat : atE ops base i = none := by unfold atE; rw [if_neg (by rw [hf]; simp)]
              have hgo2 : goE P ops cx (atE ops base i) o tmB G = some (v2, H3) := by
                unfold goE; rw [if_pos hw2, hat, hv2]; rfl
              have atB : At P ρ H1 w tmB a (fun t => t ∈ readsAt ops i) := ⟨h.good.real, rdB⟩
              rcases goE_kind r.op hc hgo2 with ⟨q, -⟩ | ⟨-, q, -⟩ | ⟨-, -, rfl, hok2, hrest2⟩
              · rw [hw2] at q; cases q
              · rw [hf] at q; cases q
              · rcases hrest2 with hany | ⟨-, hloc2⟩
                · exact still atB (hany H1 none) hno
                · refine still atB (hloc2 (fun x hx => ⟨_, atB.opd ⟨hok2 x hx, fun t et => hW1 t (et ▸ hx)⟩⟩) fun b x _ hbx => h.sub b x hbx) hno
        · -- looked at behind B
          obtain ⟨R, hp, hR⟩ := h.behind c e hiB fun k hk hkc => hb k (c.ord.look e hl k hk hkc)
          have hpre : preE E i <+: E := ⟨_, e.symm⟩
          have hrunA := r.run
          rw [hp] at hpre hrunA
          obtain ⟨n1, n2⟩ := h.seen c hpre hR hrunA
          refine still (at1 h.good.real) (hloc (ρ := ρ) (fun x hx => ⟨_, (at1 h.good.real).opd ⟨hok x hx, fun t et => hW1 t (et ▸ hx)⟩⟩) fun b x hbn hbx => ?_) hno
          refine n2 b x hbx fun f hf2 hbe hadd => ?_
          refine Classical.byContradiction fun hnS => hbn ?_
          rw [hbe]
          exact h.unk f (c.lt hpre (by simp [hf2])) hadd.1 (.inl hnS)

end rc
end Go.Ab
