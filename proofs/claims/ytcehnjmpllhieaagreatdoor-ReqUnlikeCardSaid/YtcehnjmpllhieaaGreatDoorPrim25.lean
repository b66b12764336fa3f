/- Layer 23's steps: its own try, requests. -/
import Derived.Test.YtcehnjmpllhieaaGreatDoorVia
import Derived.Test.YtcehnjmpllhieaaGreatDoorBegT
namespace Go.Ab
noncomputable section
open Go.Proofs
set_option maxRecDepth 10000
variable {H : AH}

def prims25 : PrimF := addP 8 (viaA 8) <| addP 10 (viaA 10) <| addP 13 (viaA 13) <| addP 9 (viaA 9) <| addP 14 (viaA 14) <| prims23
abbrev C25 : CW := WP PP prims25
theorem prims25_ok : PrimOk PP prims25 :=
  PrimOk.add (PrimOk.add (PrimOk.add (PrimOk.add (PrimOk.add (prims23_ok) (via_at (by kernel_rfl))) (via_at (by kernel_rfl))) (via_at (by kernel_rfl))) (via_at (by kernel_rfl))) (via_at (by kernel_rfl))
structure Laid2 (H : AH) : Prop where
  h0 : isLaid 272 PP.globals.size 30 (H.get 0) = true
  h1 : isTab tabV (H.get 1) = true
theorem begun25_wp (h : Laid2 H) (K : AV → AH → Prop) (hK : K (.bool true) H) : C25.call 7 [] H K := by
  refine prim_wp (P := PP) (prim := prims25) (g := beg2A) (v := .bool true) (H' := H) (by kernel_rfl) ?_ hK
  show br (isLaid 272 PP.globals.size 30 (H.get 0)) (br (isTab tabV (H.get 1)) (some (AV.bool true, H)) none) none = _
  rw [h.h0, h.h1]; rfl
end
end Go.Ab
