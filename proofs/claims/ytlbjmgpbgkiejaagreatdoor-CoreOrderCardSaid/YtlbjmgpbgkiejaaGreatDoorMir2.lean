/- How a function's code is cut into pieces, told so that the elaborator has little to do. -/
import Derived.Test.YtlbjmgpbgkiejaaGreatDoorMir
namespace Go.Ab
noncomputable section
variable {P : Program} {C : CW} {c ca cb : Code} {k : KP} {a : TE} {H : AH} {X Y : Prop}
theorem eSeqK {kb : KE} {k' : KP} (h : c = .seq ca cb) (hb : ∀ a H, codeP P C cb k a H = kb a H) (hk : k' = exP kb k) (hx : codeP P C ca k' a H = X) : codeP P C c k a H = X := by
  subst hk; exact eSeq h hb hx
theorem eSeqJ {k' : KP} (cb : Code) (h : c = .seq ca cb) (hk : k' = exP (codeP P C cb k) k) (hx : codeP P C ca k' a H = X) : codeP P C c k a H = X := by
  subst hk; exact eSeq0 h hx
theorem eBlockK {k' : KP} (i : Nat) (h : c = .block i ca) (hk : k' = blockP i k) (hx : codeP P C ca k' a H = X) : codeP P C c k a H = X := by
  subst h hk; exact hx
theorem eLoopK {S : Type} {k' : (S → AH → Prop) → KP} (π : TE → S) (F : (S → AH → Prop) → S → AH → Prop) (h : c = .loop ca) (hk : ∀ r, k' r = exP (fun a H => r (π a) H) k) (hb : ∀ (r : S → AH → Prop) (a : TE) (H : AH), codeP P C ca (k' r) a H = F r (π a) H) : codeP P C c k a H = loopP F (π a) H := by
  subst h
  refine loopP_iso (F := fun rec => codeP P C ca (exP rec k)) π F (fun r a H => ?_) a H
  have := hb r a H
  rw [hk] at this; exact this
theorem okN {prim : PrimF} {f : FuncId} {args : List AV} {K : KT} (hp : prim f = none) (hb : hasBody P f = true) (h1 : funP P (WP P prim) f args H K = codeP P (WP P prim) (subC (bodyC P f) []) k (argE args) H) (he : codeP P (WP P prim) (subC (bodyC P f) []) k (argE args) H = Y) (hy : Y = X) (h : X) : (WP P prim).call f args H K :=
  funP_ok hp hb ((h1.trans (he.trans hy)).mpr h)
end
end Go.Ab
