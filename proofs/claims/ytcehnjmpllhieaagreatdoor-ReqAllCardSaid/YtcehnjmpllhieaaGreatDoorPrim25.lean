/- A function as one step, by what the evaluator tells of it: so that contracts go over into a calculus with more steps. -/
import Derived.Test.YtcehnjmpllhieaaGreatDoorBeg
import Derived.Test.YtcehnjmpllhieaaGreatDoorBegT
namespace Go.Ab
noncomputable section
open Go.Proofs
set_option maxRecDepth 10000

/-- What the evaluator tells, if it tells something. -/
def ViaSays (f : FuncId) (args : List AV) (H : AH) (r : AV × AH) : Prop := ∃ n, ∀ m, n ≤ m → evCall PP prims7 m f args H = some r
open Classical in
def viaA (f : FuncId) (args : List AV) (H : AH) : Option (AV × AH) := if h : ∃ r, ViaSays f args H r then some h.choose else none
theorem via_says {f : FuncId} {args : List AV} {H : AH} {r : AV × AH} (h : ViaSays f args H r) : viaA f args H = some r := by
  have h' : ∃ r, ViaSays f args H r := ⟨r, h⟩
  unfold viaA
  rw [dif_pos h']
  obtain ⟨n, hn⟩ := h
  obtain ⟨n', hn'⟩ := h'.choose_spec
  have e1 := hn (max n n') (by omega)
  have e2 := hn' (max n n') (by omega)
  rw [e1] at e2
  exact congrArg some (Option.some.inj e2).symm
theorem via_at {f : FuncId} (hb : hasBody PP f = true) : PrimAt PP f (viaA f) := by
  intro args args' ρ H w v H' hg hr ha
  refine ⟨fun _ m => ?_, fun q => (by rw [hb] at q; cases q)⟩
  unfold viaA at hg
  split at hg
  · rename_i h
    obtain ⟨n, hn⟩ := h.choose_spec
    have e := Option.some.inj hg
    rw [e] at hn
    exact ((ev_ok prims7_ok seat_mixed (progOk_regs seat_ok) n).call (hn n (Nat.le_refl _)) hr ha).1 hb m
  · cases hg
theorem via_wp {prim : PrimF} {f : FuncId} {args : List AV} {H : AH} {K : AV → AH → Prop} (hp : prim f = some (viaA f)) (h : CC.call f args H K) : (WP PP prim).call f args H K := by
  obtain ⟨n, v, H', h1, h2⟩ := h
  exact prim_wp hp (via_says ⟨n, h1⟩) h2
end
end Go.Ab
/- Layer 23's steps: its own try, requests. -/
namespace Go.Ab
noncomputable section
open Go.Proofs
set_option maxRecDepth 10000
variable {H : AH}

def prims25 : PrimF := addP 8 (viaA 8) <| addP 10 (viaA 10) <| addP 13 (viaA 13) <| addP 9 (viaA 9) <| addP 14 (viaA 14) <| prims23
abbrev C25 : CW := WP PP prims25
theorem prims25_ok : PrimOk PP prims25 :=
  PrimOk.add (PrimOk.add (PrimOk.add (PrimOk.add (PrimOk.add (prims23_ok) (via_at (by kernel_rfl))) (via_at (by kernel_rfl))) (via_at (by kernel_rfl))) (via_at (by kernel_rfl))) (via_at (by kernel_rfl))
structure Laid2 (H : AH) : Prop where
  h0 : isLaid 272 PP.globals.size 30 (H.get 0) = true
  h1 : isTab tabV (H.get 1) = true
theorem begun25_wp (h : Laid2 H) (K : AV → AH → Prop) (hK : K (.bool true) H) : C25.call 7 [] H K := by
  refine prim_wp (P := PP) (prim := prims25) (g := beg2A) (v := .bool true) (H' := H) (by kernel_rfl) ?_ hK
  show br (isLaid 272 PP.globals.size 30 (H.get 0)) (br (isTab tabV (H.get 1)) (some (AV.bool true, H)) none) none = _
  rw [h.h0, h.h1]; rfl
end
end Go.Ab
