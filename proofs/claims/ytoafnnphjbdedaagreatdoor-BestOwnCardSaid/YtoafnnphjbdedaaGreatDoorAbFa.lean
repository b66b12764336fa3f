/- From a world in which the laid variable reads to the abstract heap, and from the run's end to what the row asks. -/
import Derived.Test.YtoafnnphjbdedaaGreatDoorAbEb
import Derived.Below
namespace Go.Ab
variable {P : Program}

/-- The variables alone have names. -/
def rho0 (P : Program) : Env := fun b => if b < P.globals.size + 1 then some ⟨b, 0, 0⟩ else none
theorem rho0_lt {b : Nat} (h : b < P.globals.size + 1) : rho0 P b = some ⟨b, 0, 0⟩ := if_pos h
theorem real_start {W : World} {rt h : Nat} (hl : W.cell? ⟨0, 0, none⟩ = some (.iface rt (.agg #[.pointer (some ⟨P.globals.size, h, none⟩)]))) :
    ∃ ob', W.heap[0]? = some ob' ∧ Real P (rho0 P) (AH.start (P.globals.size + 1) (laidA ob' rt P.globals.size h)) W := by
  cases hw : W.heap[0]? with
  | none => simp [World.cell?, hw] at hl
  | some ob' =>
    cases ob' with
    | cells c e fr =>
      have hc : c[0]? = some (.iface rt (.agg #[.pointer (some ⟨P.globals.size, h, none⟩)])) := by simpa [World.cell?, hw] using hl
      refine ⟨_, rfl, ⟨fun b x hx => ?_, fun b b' l l' q1 q2 _ _ _ => ?_, fun b hb => if_neg (by
        have hb : P.globals.size + 1 ≤ b := hb
        omega), fun g hg => rho0_lt hg⟩⟩
      · rw [get_start] at hx
        split at hx
        · rename_i hb
          subst hb
          cases hx
          refine ⟨⟨0, 0, 0⟩, c, e, fr, rho0_lt (Nat.succ_pos _), hw, rfl, fun i x hx => ?_⟩
          rw [br_some_none] at hx
          obtain ⟨hi, hx⟩ := hx
          obtain rfl := Nat.eq_of_beq_eq_true hi
          cases hx
          exact ⟨rfl, _, hc, ⟨_, rfl, _, rfl, _, _, rfl, ⟨_, rho0_lt (Nat.lt_succ_self _), by simp⟩, rfl⟩⟩
        · cases hx
      · have key : ∀ b, (AH.start (P.globals.size + 1) (laidA (.cells c e fr) rt P.globals.size h)).get b ≠ none → b = 0 := by
          intro b hb
          rw [get_start] at hb
          split at hb
          · assumption
          · exact absurd rfl hb
        rw [key b q1, key b' q2]
    | _ => simp [World.cell?, hw] at hl

/-- What is read alone, and was all that there was, is as it was: nothing below is turned. -/
theorem below_of {ρ ρ' : Env} {H H' : AH} {W W' : World} (g : Good none P ρ H W ρ' H' W') (hr : Real P ρ H W) (hro : ∀ b x, H.get b = some x → ∃ ob' f, x = .ro ob' f ∧ H'.get b = some (.ro ob' f)) : RowKit.Below W.heap.size W W' := by
  refine ⟨g.ev.os, g.ev.tape, g.ev.output, g.ev.size, fun B hB => ?_⟩
  by_cases hx : ∃ b l, H.get b ≠ none ∧ ρ b = some l ∧ l.blk = B
  · obtain ⟨b, l, hb, hl, rfl⟩ := hx
    obtain ⟨x, hx⟩ := Option.ne_none_iff_exists'.1 hb
    obtain ⟨ob', f, rfl, hb'⟩ := hro b x hx
    obtain ⟨l1, _, _, _, q1, q2, _⟩ := hr.lies b _ hx
    obtain ⟨l2, _, _, _, k1, k2, _⟩ := g.real.lies b _ hb'
    rw [hl] at q1; cases q1
    have := g.ev.le _ _ hl
    rw [k1] at this; cases this
    rw [k2, q2]
  · exact g.ev.keep B hB fun b l hb hl e => hx ⟨b, l, hb, hl, e⟩
end Go.Ab
