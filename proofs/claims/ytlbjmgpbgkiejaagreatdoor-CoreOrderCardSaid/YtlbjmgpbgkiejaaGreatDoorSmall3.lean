/- A function that reads an error alone, as one step: what the evaluator tells of it on a heap of three blocks (a type's handle, a table, the error) holds in every heap that has them. -/
import Derived.Test.YtlbjmgpbgkiejaaGreatDoorClosed2
namespace Go.Ab
noncomputable section
variable {P : Program}

def AH.start3 (n : Nat) (x y z : ABlk) : AH := ⟨((Tr.leaf.put 0 (some x)).put 1 (some y)).put n (some z), n + 1⟩
theorem get_start3 (n : Nat) (x y z : ABlk) (b : Nat) : (AH.start3 n x y z).get b = if b = n then some z else if b = 1 then some y else if b = 0 then some x else none := by
  show (Tr.put (Tr.put (Tr.put Tr.leaf 0 (some x)) 1 (some y)) n (some z)).get b = _
  rw [Tr.get_put, Tr.get_put, Tr.get_put]; rfl
def closedR3 (n : Nat) (r : Option (AV × AH)) : Option (AV × Option ABlk × Option ABlk × Option ABlk) :=
  @Option.rec (AV × AH) (fun _ => Option (AV × Option ABlk × Option ABlk × Option ABlk)) none (fun p => some (p.1, p.2.get 0, p.2.get 1, p.2.get n)) r
theorem key_start3 {n : Nat} {x y z : ABlk} {b : Nat} (hb : (AH.start3 n x y z).get b ≠ none) : b = n ∨ b = 1 ∨ b = 0 := by
  rw [get_start3] at hb
  split at hb
  · exact .inl (by assumption)
  · split at hb
    · exact .inr (.inl (by assumption))
    · split at hb
      · exact .inr (.inr (by assumption))
      · exact absurd rfl hb

theorem small_at3 {prim : PrimF} (hp : PrimOk P prim) (hm : P.follows .mixedOrders = true) (hreg : progOk P = true) {n : Nat} {f : FuncId} {rt h : Nat} {tab : List AV} {pt tt : TypeId} {cs : List AV} {v : AV} (hb : hasBody P f = true) (hG : 1 < P.globals.size)
    (htab : ∀ y ∈ tab, ∀ ρ ρ' v, Rel ρ y v → Rel ρ' y v) (hcs : ∀ y ∈ cs, y.known = true ∧ ∀ ρ ρ' v, Rel ρ y v → Rel ρ' y v) (hv : ∀ ρ ρ' x, Rel ρ v x → Rel ρ' v x)
    (he : ∀ ob0 ob1 : Obj, closedR3 (P.globals.size + 1) (evCall P prim n f [.iface pt (.ptr (some (P.globals.size + 1, 0)))] (AH.start3 (P.globals.size + 1) (laidA ob0 rt P.globals.size h) (tabA ob1 tab) (.cells tt cs))) = some (v, some (laidA ob0 rt P.globals.size h), some (tabA ob1 tab), some (.cells tt cs)))
    {ρ : Env} {H : AH} {w : World} {b : Nat} (hr : Real P ρ H w) (hl0 : isLaid rt P.globals.size h (H.get 0) = true) (ht0 : isTab tab (H.get 1) = true) (h2 : H.get b = some (.cells tt cs)) {args' : Array Value} (ha : RelL ρ [.iface pt (.ptr (some (b, 0)))] args'.toList) (m : Nat) :
    CallsIn Fence.wide m P f args' w (Ret P ρ H w v H) := by
  obtain ⟨ob0, f0, h0, hf0⟩ := isLaid_eq hl0
  obtain ⟨ob1, f1, h1, hf1⟩ := isTab_eq ht0
  have nb0 : b ≠ 0 := fun q => by rw [q, h0] at h2; cases h2
  have nb1 : b ≠ 1 := fun q => by rw [q, h1] at h2; cases h2
  obtain ⟨N, hN⟩ : ∃ N, N = P.globals.size + 1 := ⟨_, rfl⟩
  obtain ⟨ρ0, hρ⟩ : ∃ ρ0 : Env, ρ0 = fun c => if c < N then ρ c else if c = N then ρ b else none := ⟨_, rfl⟩
  have e0 : ∀ c, c < N → ρ0 c = ρ c := fun c hc => by rw [hρ]; exact if_pos hc
  have eN : ρ0 N = ρ b := by rw [hρ]; show (if N < N then _ else _) = _; rw [if_neg (by omega), if_pos rfl]
  have eX : ∀ c, N < c → ρ0 c = none := fun c hc => by rw [hρ]; show (if c < N then _ else _) = _; rw [if_neg (by omega), if_neg (by omega)]
  obtain ⟨l0, c0, t0, p0, a1, a2, a3, a4⟩ := hr.lies 0 _ h0
  obtain ⟨l1, c1, t1, p1, b1, b2, b3, b4⟩ := hr.lies 1 _ h1
  obtain ⟨l2, c2, p2, d1, d2, d3, d4, d5, d6, d7⟩ := hr.lies b _ h2
  have ko : ∀ b c l l', H.get b ≠ none → H.get c ≠ none → ρ b = some l → ρ c = some l' → l.blk = l'.blk → b = c := hr.inj
  have n0 : H.get 0 ≠ none := by rw [h0]; simp
  have n1 : H.get 1 ≠ none := by rw [h1]; simp
  have n2 : H.get b ≠ none := by rw [h2]; simp
  have he := he ob0 ob1
  rw [← hN] at he
  have r0 : Real P ρ0 (AH.start3 N (laidA ob0 rt P.globals.size h) (tabA ob1 tab) (.cells tt cs)) w := by
    refine ⟨fun c x hx => ?_, fun c c' l l' q1 q2 k1 k2 e => ?_, fun c hc => eX c (by have : N + 1 ≤ c := hc; omega), fun g hg => (e0 g (by omega)).trans (hr.glob' g hg)⟩
    · rw [get_start3] at hx
      split at hx
      · rename_i e
        subst e; cases hx
        refine ⟨l2, c2, p2, eN.trans d1, d2, d3, d4, d5, fun i x hx => ?_, d7⟩
        obtain ⟨y, q1, q2⟩ := d6 i x hx
        have hk := hcs x (List.mem_of_getElem? hx)
        exact ⟨y, q1, .inl (hk.2 _ _ _ (q2.rel hk.1))⟩
      · split at hx
        · rename_i e
          subst e; cases hx
          refine ⟨l1, c1, t1, p1, (e0 1 (by omega)).trans b1, b2, b3, fun i x hx => ?_⟩
          have hx : nthO tab i = some x := hx
          rw [nthO_eq] at hx
          obtain ⟨q1, v, q2, q3⟩ := b4 i x (hf1 i x hx)
          exact ⟨q1, v, q2, htab x (List.mem_of_getElem? hx) _ _ _ q3⟩
        · split at hx
          · rename_i e
            subst e; cases hx
            refine ⟨l0, c0, t0, p0, (e0 0 (by omega)).trans a1, a2, a3, fun i x hx => ?_⟩
            rw [br_some_none] at hx
            obtain ⟨hi, hx⟩ := hx
            obtain rfl := Nat.eq_of_beq_eq_true hi
            cases hx
            obtain ⟨q1, v, q2, q3⟩ := a4 0 _ hf0
            refine ⟨rfl, v, q2, ?_⟩
            obtain ⟨y, rfl, cs, rfl, y2, ys, rfl, ⟨m, q4, q5⟩, r2⟩ := q3
            exact ⟨_, rfl, _, rfl, y2, ys, rfl, ⟨m, (e0 _ (by omega)).trans q4, q5⟩, r2⟩
          · cases hx
    · have big : ∀ c l, (c = N ∨ c = 1 ∨ c = 0) → ρ0 c = some l → ∃ d, (c = N → d = b) ∧ (c = 1 → d = 1) ∧ (c = 0 → d = 0) ∧ H.get d ≠ none ∧ ρ d = some l := fun c l hc hl => by
        rcases hc with rfl | rfl | rfl
        · exact ⟨b, fun _ => rfl, fun q => by omega, fun q => by omega, n2, eN ▸ hl⟩
        · exact ⟨1, fun q => by omega, fun _ => rfl, fun q => by omega, n1, (e0 1 (by omega)) ▸ hl⟩
        · exact ⟨0, fun q => by omega, fun q => by omega, fun _ => rfl, n0, (e0 0 (by omega)) ▸ hl⟩
      have hc := key_start3 q1
      have hc' := key_start3 q2
      obtain ⟨d, x1, x2, x3, x4, x5⟩ := big c l hc k1
      obtain ⟨d', y1, y2, y3, y4, y5⟩ := big c' l' hc' k2
      have := ko d d' l l' x4 y4 x5 y5 e
      omega
  have ha0 : RelL ρ0 [.iface pt (.ptr (some (N, 0)))] args'.toList := by
    obtain ⟨y, ys, q1, ⟨z, q2, l, q3, q4⟩, q5⟩ := ha
    exact ⟨y, ys, q1, ⟨z, q2, l, eN.trans q3, q4⟩, q5⟩
  cases hev : evCall P prim n f [.iface pt (.ptr (some (N, 0)))] (AH.start3 N (laidA ob0 rt P.globals.size h) (tabA ob1 tab) (.cells tt cs)) with
  | none => rw [hev] at he; cases he
  | some r =>
    obtain ⟨v1, H1⟩ := r
    rw [hev] at he
    have he : some (v1, H1.get 0, H1.get 1, H1.get N) = some (v, some (laidA ob0 rt P.globals.size h), some (tabA ob1 tab), some (.cells tt cs)) := he
    simp only [Option.some.injEq, Prod.mk.injEq] at he
    obtain ⟨hv1, k0, k1, k2⟩ := he
    subst hv1
    have hc := ((ev_ok hp hm (progOk_regs hreg) n).call hev r0 ha0).1 hb m
    refine hc.mono fun e' w' hret => ?_
    unfold Ret at hret ⊢
    cases e' with
    | returned v' =>
      obtain ⟨ρ', q1, g⟩ := hret
      refine ⟨ρ, hv _ _ _ q1, ?_⟩
      have keep : ∀ B, B < w.heap.size → B ≠ l0.blk → B ≠ l1.blk → B ≠ l2.blk → w'.heap[B]? = w.heap[B]? := fun B hB hn hn1 hn2 => g.ev.keep B hB fun c l hc hl => by
        rcases key_start3 hc with rfl | rfl | rfl
        · rw [eN, d1] at hl; cases hl
          exact fun q => hn2 q.symm
        · rw [e0 1 (by omega), b1] at hl; cases hl
          exact fun q => hn1 q.symm
        · rw [e0 0 (by omega), a1] at hl; cases hl
          exact fun q => hn q.symm
      refine ⟨⟨fun c x hx => ?_, hr.inj, hr.fresh, hr.glob'⟩, ⟨.refl ρ, Nat.le_refl _, g.ev.size, fun c l q1 q2 _ => ⟨c, l, q1, q2, rfl⟩, fun B hB hn => keep B hB (fun q => hn 0 l0 n0 a1 q.symm) (fun q => hn 1 l1 n1 b1 q.symm) (fun q => hn b l2 n2 d1 q.symm), g.ev.os, g.ev.tape, g.ev.output, fun _ _ q _ => q⟩⟩
      by_cases hb0 : c = 0
      · subst hb0
        rw [h0] at hx; cases hx
        obtain ⟨l3, _, _, _, s1, s2, _⟩ := g.real.lies 0 _ k0
        have : l3 = l0 := by
          have := g.ev.le _ _ ((e0 0 (by omega)).trans a1)
          rw [s1] at this; exact Option.some.inj this
        subst this
        exact ⟨l3, c0, t0, p0, a1, s2, a3, a4⟩
      · by_cases hb1 : c = 1
        · subst hb1
          rw [h1] at hx; cases hx
          obtain ⟨l3, _, _, _, s1, s2, _⟩ := g.real.lies 1 _ k1
          have : l3 = l1 := by
            have := g.ev.le _ _ ((e0 1 (by omega)).trans b1)
            rw [s1] at this; exact Option.some.inj this
          subst this
          exact ⟨l3, c1, t1, p1, b1, s2, b3, b4⟩
        · by_cases hb2 : c = b
          · subst hb2
            rw [h2] at hx; cases hx
            obtain ⟨l3, c3, p3, s1, s2, s3, s4, s5, s6, s7⟩ := g.real.lies N _ k2
            have : l3 = l2 := by
              have := g.ev.le _ _ (eN.trans d1)
              rw [s1] at this; exact Option.some.inj this
            subst this
            exact ⟨l3, c3, p3, d1, s2, s3, s4, s5, fun i x hx => by
              obtain ⟨y, u1, u2⟩ := s6 i x hx
              have hk := hcs x (List.mem_of_getElem? hx)
              exact ⟨y, u1, .inl (hk.2 _ _ _ (u2.rel hk.1))⟩, s7⟩
          · refine (hr.lies c x hx).mono (.refl ρ) fun l hl => keep _ (hr.inb (by rw [hx]; simp) hl) (fun q => hb0 ?_) (fun q => hb1 ?_) fun q => hb2 ?_
            · exact ko c 0 l l0 (by rw [hx]; simp) n0 hl a1 q
            · exact ko c 1 l l1 (by rw [hx]; simp) n1 hl b1 q
            · exact ko c b l l2 (by rw [hx]; simp) n2 hl d1 q
    | _ => exact hret.elim
end
end Go.Ab
