/- How a function's code is cut into pieces: for the texts that a program prints. -/
import Derived.Test.YtlbjmgpbgkiejaaGreatDoorEv3
namespace Go.Ab
noncomputable section
abbrev KT := AV → AH → Prop
variable {P : Program} {C : CW} {c ca cb : Code} {k : KP} {a : TE} {H : AH} {X Y : Prop}
theorem eSeq {kb : KE} (h : c = .seq ca cb) (hb : ∀ a H, codeP P C cb k a H = kb a H) (hx : codeP P C ca (exP kb k) a H = X) : codeP P C c k a H = X := by
  subst h
  have e : codeP P C cb k = kb := funext fun a => funext fun H => hb a H
  show codeP P C ca (exP (codeP P C cb k) k) a H = X
  rw [e]; exact hx
theorem eSeq0 (h : c = .seq ca cb) (hx : codeP P C ca (exP (codeP P C cb k) k) a H = X) : codeP P C c k a H = X := by
  subst h; exact hx
theorem eBlock {i : Nat} (h : c = .block i ca) (hx : codeP P C ca (blockP i k) a H = X) : codeP P C c k a H = X := by
  subst h; exact hx
theorem eCond {o : Operand} (h : c = .cond o ca cb) (hA : codeP P C ca k a H = X) (hB : codeP P C cb k a H = Y) : codeP P C c k a H = condP (opE a o) X Y := by
  subst h hA hB; rfl
theorem eLoop {S : Type} (π : TE → S) (F : (S → AH → Prop) → S → AH → Prop) (h : c = .loop ca) (hb : ∀ (r : S → AH → Prop) (a : TE) (H : AH), codeP P C ca (exP (fun a H => r (π a) H) k) a H = F r (π a) H) : codeP P C c k a H = loopP F (π a) H := by
  subst h
  exact loopP_iso (F := fun rec => codeP P C ca (exP rec k)) π F hb a H
theorem okM {prim : PrimF} {f : FuncId} {args : List AV} {K : KT} (hp : prim f = none) (hb : hasBody P f = true) (h1 : funP P (WP P prim) f args H K = codeP P (WP P prim) (subC (bodyC P f) []) k (argE args) H) (he : codeP P (WP P prim) (subC (bodyC P f) []) k (argE args) H = X) (h : X) : (WP P prim).call f args H K :=
  funP_ok hp hb ((h1.trans he).mpr h)
end
end Go.Ab
