/- A drawn region. -/
import Derived.Test.YtoafnnphjbdedaaGreatDoorAbU
namespace Go.Ab
variable {P : Program}

section rc
variable {ops : Array Oper} {E : List Ins} {cx : Cx} {base N : Nat} {tm0 tmF : TM0} {H0 HF : AH}
variable {Hs : AH} {ρ0 : Env} {w0 : World} {ds : List Deferred} {S : Nat → Prop} {ρ : Env} {B : List Ins} {tmB : TM0} {G H1 : AH} {a : Act} {w : World}

theorem Inv.congr (h : Inv P ops E cx base N tm0 H0 Hs ρ0 w0 ds S ρ B tmB G H1 a w) {S' : Nat → Prop} (e : ∀ j, S j ↔ S' j) : Inv P ops E cx base N tm0 H0 Hs ρ0 w0 ds S' ρ B tmB G H1 a w := by
  have : S = S' := funext fun j => propext (e j)
  exact this ▸ h

theorem lin_wp (hcx : CxOk P cx.call cx.round) (c : RC P ops E cx base N tm0 tmF H0 HF) (hsb : Hs.next ≤ base) {ro : Option Nat} {n : Nat} {Q : Exit → Act → World → Prop}
    (hQ : ∀ ρ' B' tmB' G' H1' a' w', Inv P ops E cx base N tm0 H0 Hs ρ0 w0 ds (fun i => i < ops.size) ρ' B' tmB' G' H1' a' w' → Q .normal a' w') :
    ∀ (fuel t : Nat) (listed : Array Bool) (ρ : Env) (B : List Ins) (tmB : TM0) (G H1 : AH) (a : Act) (w : World), listed.size = ops.size →
    ((List.range ops.size).filter fun i => !listed.getD i true).length ≤ fuel →
    Inv P ops E cx base N tm0 H0 Hs ρ0 w0 ds (fun i => listed.getD i false = true) ρ B tmB G H1 a w →
    wpOpsIn (Fr ro) n P ops Q (Region.linearise.go .any ops fuel t listed []) a w := by
  have getD : ∀ (listed : Array Bool), listed.size = ops.size → ∀ i, i < ops.size → listed.getD i true = listed.getD i false := fun listed hs i hi => by
    rw [Array.getD_eq_getD_getElem?, Array.getD_eq_getD_getElem?, Array.getElem?_eq_getElem (by omega)]; rfl
  have mem_ready : ∀ (listed : Array Bool), listed.size = ops.size → ∀ i, i ∈ Region.ready .any ops listed ↔ i < ops.size ∧ listed.getD i false = false ∧ ∃ o, ops[i]? = some o ∧ ∀ e ∈ o.after.toList, Region.binds .any e = true → listed.getD e.on false = true := by
    intro listed hs i
    unfold Region.ready
    simp only [List.mem_filter, List.mem_range, Bool.and_eq_true, Bool.not_eq_true']
    constructor
    · rintro ⟨h1, h2, h3⟩
      refine ⟨h1, by rw [← getD listed hs i h1]; exact h2, ?_⟩
      have ho : ops[i]? = some ops[i] := Array.getElem?_eq_getElem h1
      rw [ho] at h3
      refine ⟨_, ho, fun e he hb => ?_⟩
      simp only [Option.map_some, Option.getD_some, Array.all_eq_true_iff_forall_mem] at h3
      have := h3 e (by simpa using he)
      rw [hb] at this
      simpa using this
    · rintro ⟨h1, h2, o, ho, h3⟩
      refine ⟨h1, by rw [getD listed hs i h1]; exact h2, ?_⟩
      rw [ho]
      simp only [Option.map_some, Option.getD_some, Array.all_eq_true_iff_forall_mem]
      intro e he
      by_cases hb : Region.binds .any e = true
      · simp [hb, h3 e (by simpa using he) hb]
      · simp [hb]
  -- nothing ready: all is done
  have fin : ∀ (listed : Array Bool) ρ B tmB G H1 a w, listed.size = ops.size → Region.ready .any ops listed = [] → Inv P ops E cx base N tm0 H0 Hs ρ0 w0 ds (fun i => listed.getD i false = true) ρ B tmB G H1 a w → Q .normal a w := by
    intro listed ρ B tmB G H1 a w hs hr h
    have all : ∀ (E1 : List Ins), E1 <+: E → ∀ i, Ins.go i ∈ E1 → listed.getD i false = true := by
      intro E1
      induction E1 using rev_ind with
      | nil => intro _ i hi; simp at hi
      | snoc E1 x ih =>
        intro hp i hi
        have ih := ih ((List.prefix_append _ [x]).trans hp)
        rcases List.mem_append.1 hi with hi | hi
        · exact ih i hi
        · have hx : x = .go i := (List.mem_singleton.1 hi).symm
          subst hx
          obtain ⟨E2, e⟩ := hp
          have e : E = E1 ++ .go i :: E2 := by rw [← e]; simp
          obtain ⟨hil, -, hbf⟩ := c.ord.go e
          cases hq : listed.getD i false with
          | true => rfl
          | false =>
            have : i ∈ Region.ready .any ops listed := by
              refine (mem_ready listed hs i).2 ⟨hil, hq, _, Array.getElem?_eq_getElem hil, fun ed hed hbd => ?_⟩
              exact ih _ (hbf _ ((before_spec ops (Array.getElem?_eq_getElem hil) ed.on).2 ⟨ed, hed, hbd, .inl rfl⟩))
            rw [hr] at this; simp at this
    refine hQ _ _ _ _ _ _ _ (h.congr fun j => ⟨h.mem j, fun hj => all E (List.prefix_refl _) j (c.ord.all j hj)⟩)
  intro fuel
  induction fuel with
  | zero =>
    intro t listed ρ B tmB G H1 a w hs hf h
    have hnil : ((List.range ops.size).filter fun i => !listed.getD i true) = [] := List.eq_nil_of_length_eq_zero (by omega)
    have : Region.ready .any ops listed = [] := by
      refine List.eq_nil_iff_forall_not_mem.2 fun i hi => ?_
      obtain ⟨h1, h2, -⟩ := (mem_ready listed hs i).1 hi
      have : i ∈ ((List.range ops.size).filter fun i => !listed.getD i true) := by
        simp only [List.mem_filter, List.mem_range]
        exact ⟨h1, by rw [getD listed hs i h1, h2]; rfl⟩
      rw [hnil] at this; simp at this
    simp only [Region.linearise.go, List.reverse_nil, wpOpsIn]
    exact fin listed ρ B tmB G H1 a w hs this h
  | succ fuel ih =>
    intro t listed ρ B tmB G H1 a w hs hf h
    simp only [Region.linearise.go]
    change wpOpsIn (Fr ro) n P ops Q (match (Region.ready .any ops listed)[t % (Region.ready .any ops listed).length]? with
      | some i => Region.linearise.go .any ops fuel (t / (Region.ready .any ops listed).length) (listed.setIfInBounds i true) [i]
      | none => [].reverse) a w
    cases hi : (Region.ready .any ops listed)[t % (Region.ready .any ops listed).length]? with
    | none =>
      have hnil : Region.ready .any ops listed = [] := by
        cases hr : Region.ready .any ops listed with
        | nil => rfl
        | cons x xs =>
          rw [hr] at hi
          have hlt : t % (x :: xs).length < (x :: xs).length := Nat.mod_lt _ (by simp)
          simp at hi
          simp at hlt
          omega
      simp only [List.reverse_nil, wpOpsIn]
      exact fin listed ρ B tmB G H1 a w hs hnil h
    | some i =>
      simp only []
      rw [linearise_go_acc, List.reverse_singleton, List.singleton_append]
      obtain ⟨h1, h2, o, ho, h3⟩ := (mem_ready listed hs i).1 (List.mem_of_getElem? hi)
      have hbf : ∀ k, (bfAt (Region.before ops) i).testBit k = true → listed.getD k false = true := by
        intro k hk
        obtain ⟨ed, q1, q2, q3⟩ := (before_spec ops ho k).1 hk
        rcases q3 with rfl | ⟨-, q3⟩
        · exact h3 ed q1 q2
        · exact h.down _ (h3 ed q1 q2) k q3
      refine h.step hcx c hsb h1 (by rw [h2]; simp) hbf fun ρ' B' tmB' G' H1' a' w' hI => ?_
      refine ih _ _ _ _ _ _ _ _ _ (by simpa using hs) ?_ (hI.congr fun j => ?_)
      · have hlt : ((List.range ops.size).filter fun j => !(listed.setIfInBounds i true).getD j true).length < ((List.range ops.size).filter fun j => !listed.getD j true).length := by
          have e : ((List.range ops.size).filter fun j => !(listed.setIfInBounds i true).getD j true) = ((List.range ops.size).filter fun j => !listed.getD j true).filter fun j => j != i := by
            rw [List.filter_filter]
            refine List.filter_congr fun j hj => ?_
            have hj : j < ops.size := List.mem_range.1 hj
            rw [Array.getD_eq_getD_getElem?, Array.getD_eq_getD_getElem?, Array.getElem?_setIfInBounds]
            by_cases hji : i = j
            · subst hji; simp [hs, hj]
            · have : ¬ j = i := fun q => hji q.symm
              simp [hji, this]
          rw [e, List.length_filter_lt_length_iff_exists]
          refine ⟨i, ?_, by simp⟩
          simp only [List.mem_filter, List.mem_range]
          exact ⟨h1, by rw [getD listed hs i h1, h2]; rfl⟩
        omega
      · rw [Array.getD_eq_getD_getElem?, Array.getD_eq_getD_getElem?, Array.getElem?_setIfInBounds]
        by_cases hji : i = j
        · subst hji; simp [hs, h1]
        · have : ¬ j = i := fun q => hji q.symm
          simp [hji, this]

end rc

theorem draw_wp {cx : Cx} (hcx : CxOk P cx.call cx.round) (hm : P.follows .mixedOrders = true) {id : Nat} {ops : Array Oper} (hreg : regOk P ops = true) {N : Nat} (hdst : ∀ o ∈ ops.toList, dstOk N o.dst = true) {ρ : Env} {H : AH} {w : World} {tm : TM0} {a : Act} {tm' : TM0} {H' : AH}
    (hr : Real P ρ H w) (ht : TmRel ρ N tm a.tmps) (he : (regB P ops true).val cx tm H = some (tm', H')) {ro : Option Nat} {n : Nat} {Q : Exit → Act → World → Prop}
    (hQ : ∀ ρ' a' w', Good none P ρ H w ρ' H' w' → TmRel ρ' N tm' a'.tmps → a'.defers = a.defers → Q .normal a' w') : (Code.region id ops true).wpIn (Fr ro) n P Q a w := by
  refine wpIn_region_draw fun t => ?_
  simp only [Region.schedule, hm, Bool.true_or, if_true]
  unfold regB at he
  rw [br_true] at he
  cases hs : sched P ops with
  | none => rw [hs] at he; cases he
  | some E =>
    rw [hs] at he
    simp only [bx_eq, val_mk] at he
    have hrun := insB_run E tm _ _ he
    have hdlt : ∀ i t, opDst ops i = some t → t < N := fun i t hd => by
      unfold opDst at hd
      cases ho : ops[i]? with
      | none => rw [ho] at hd; cases hd
      | some o =>
        rw [ho] at hd
        have hd : o.dst = some t := hd
        have := hdst o (by rw [Array.mem_toList_iff]; exact Array.mem_of_getElem? ho)
        rw [hd] at this
        simpa [dstOk] using this
    have c : RC P ops E cx H.next N tm tm' ⟨H.tr, Nat.add H.next (rankF ops ops.size)⟩ H' := ⟨regOk_order hs hreg, hrun, hdlt, ht.room, rfl⟩
    have g0 : Good none P ρ H w ρ ⟨H.tr, Nat.add H.next (rankF ops ops.size)⟩ { w with drawn := w.drawn + 1 } := by
      have gd := Good.drew (k := none) hr (w.drawn + 1)
      refine ⟨gd.real.sub (fun b x h => h) (Nat.le_add_right _ _), gd.ev.le, Nat.le_add_right _ _, gd.ev.size, gd.ev.own, gd.ev.keep, gd.ev.os, gd.ev.tape, gd.ev.output, gd.ev.ids⟩
    refine lin_wp hcx c (Hs := H) (Nat.le_refl _) (ρ0 := ρ) (w0 := w) (ds := a.defers) ?_ ops.size t _ ρ [] tm ⟨H.tr, Nat.add H.next (rankF ops ops.size)⟩ ⟨H.tr, Nat.add H.next (rankF ops ops.size)⟩ a _ (by simp) ?_ ?_
    · intro ρ' B' tmB' G' H1' a' w' h
      obtain ⟨T, hT⟩ := h.pre
      have hTc : ∀ k, Ins.go k ∈ T → isChain P (opAt ops k) = false := by
        intro k hk
        rw [← Bool.not_eq_true]
        intro hkc
        have hkE : Ins.go k ∈ E := by rw [← hT]; simp [hk]
        have hkl := c.lt (List.prefix_refl _) hkE
        have hkB := (h.chain k hkl hkc).1 hkl
        obtain ⟨R1, R2, rfl⟩ := List.append_of_mem hk
        have e2 : E = (B' ++ R1) ++ .go k :: R2 := by rw [← hT]; simp
        exact (c.ord.go e2).2.1 (by simp [hkB])
      have hp : B' ++ T <+: E := by rw [hT]; exact List.prefix_refl _
      have hrunE : runE P ops cx H.next (B' ++ T) (tm, ⟨H.tr, Nat.add H.next (rankF ops ops.size)⟩) = some (tm', H') := by rw [hT]; exact hrun
      obtain ⟨n1, n2⟩ := h.seen c hp hTc hrunE
      refine hQ ρ' a' w' (h.good.sub (fun b x hb => n2 b x hb fun f hf _ _ => c.lt hp (by simp [hf])) n1.symm) ⟨h.size, fun i hi => ?_, fun t => ?_⟩ h.defers
      · rw [(c.tm E tm' H' (List.prefix_refl _) hrun).2.2 i]; exact ht.room i hi
      · exact h.reads c (List.prefix_refl _) hrun t fun y hy _ => ⟨fun _ => hy, fun _ => c.ord.all y hy⟩
    · exact Nat.le_trans (List.length_filter_le _ _) (by simp)
    · have hno : ∀ i, ¬ ((Array.replicate ops.size false).getD i false = true) := fun i => by
        rw [Array.getD_eq_getD_getElem?]
        simp only [Array.getElem?_replicate]
        split <;> simp
      have fresh : ∀ f, ρ (idF ops H.next f) = none := fun f => hr.fresh _ (Nat.le_add_right _ _)
      refine ⟨List.nil_prefix, rfl, .inl rfl, fun i h => absurd h (hno i), fun i h => absurd h (hno i), fun i _ _ => ⟨fun h => absurd h (hno i), fun h => by simp at h⟩, fun i h => by simp at h, rfl, fun b x h => h, fun f x h => absurd h (hno f), fun b x h => .inl h,
        fun f _ _ _ => id_dead hr (fresh f), fun f _ _ _ => fresh f, Nat.le_refl _, g0, ht.size, rfl, fun i t h => absurd h (hno i), fun t _ => ht.rel t⟩

end Go.Ab
