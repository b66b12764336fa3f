/- A function as one step, by what the evaluator tells of it: so that contracts go over into a calculus with more steps. -/
import Derived.Test.YtlbjmgpbgkiejaaGreatDoorBeg
import Derived.Test.YtlbjmgpbgkiejaaGreatDoorBegT
namespace Go.Ab
noncomputable section
open Go.Proofs
set_option maxRecDepth 10000

/-- What the evaluator tells, if it tells something. -/
def ViaSays (f : FuncId) (args : List AV) (H : AH) (r : AV × AH) : Prop := ∃ n, ∀ m, n ≤ m → evCall PP prims7 m f args H = some r
open Classical in
def viaA (f : FuncId) (args : List AV) (H : AH) : Option (AV × AH) := if h : ∃ r, ViaSays f args H r then some h.choose else none
theorem via_says {f : FuncId} {args : List AV} {H : AH} {r : AV × AH} (h : ViaSays f args H r) : viaA f args H = some r := by
  have h' : ∃ r, ViaSays f args H r := ⟨r, h⟩
  unfold viaA
  rw [dif_pos h']
  obtain ⟨n, hn⟩ := h
  obtain ⟨n', hn'⟩ := h'.choose_spec
  have e1 := hn (max n n') (by omega)
  have e2 := hn' (max n n') (by omega)
  rw [e1] at e2
  exact congrArg some (Option.some.inj e2).symm
theorem via_at {f : FuncId} (hb : hasBody PP f = true) : PrimAt PP f (viaA f) := by
  intro args args' ρ H w v H' hg hr ha
  refine ⟨fun _ m => ?_, fun q => (by rw [hb] at q; cases q)⟩
  unfold viaA at hg
  split at hg
  · rename_i h
    obtain ⟨n, hn⟩ := h.choose_spec
    have e := Option.some.inj hg
    rw [e] at hn
    exact ((ev_ok prims7_ok seat_mixed (progOk_regs seat_ok) n).call (hn n (Nat.le_refl _)) hr ha).1 hb m
  · cases hg
theorem via_wp {prim : PrimF} {f : FuncId} {args : List AV} {H : AH} {K : AV → AH → Prop} (hp : prim f = some (viaA f)) (h : CC.call f args H K) : (WP PP prim).call f args H K := by
  obtain ⟨n, v, H', h1, h2⟩ := h
  exact prim_wp hp (via_says ⟨n, h1⟩) h2
end
end Go.Ab
/- Layer 23's steps: its own try, requests. -/
namespace Go.Ab
noncomputable section
open Go.Proofs
set_option maxRecDepth 10000
variable {H : AH}

structure Laid2 (H : AH) : Prop where
  h0 : isLaid 302 PP.globals.size 36 (H.get 0) = true
  h1 : isTab tabV (H.get 1) = true
end
end Go.Ab
