/- ReqAll's steps: an error's number, the document's ways. -/
import Derived.Test.YtcehnjmpllhieaaGreatDoorPrim25
import Derived.Test.YtcehnjmpllhieaaGreatDoorSmall3
import Derived.Test.YtcehnjmpllhieaaGreatDoorReqC
namespace Go.Ab
noncomputable section
open Go.Proofs
set_option maxRecDepth 10000
variable {H : AH}

/-- An error's block. -/
abbrev atB (w : List UInt8) (n : Int) : ABlk := .cells 237 [.str w, .iface 34 (.int .i64 n)]
/-- The numbers of which it is known. -/
abbrev codesN : List Int := [1, 11, 12]
theorem code_run1 (w : List UInt8) (ob0 ob1 : Obj) : closedR3 (PP.globals.size + 1) (evCall PP prims6 4000 11 [.iface 235 (.ptr (some (PP.globals.size + 1, 0)))] (AH.start3 (PP.globals.size + 1) (begH ob0) (tabH ob1) (atB w 1))) = some (.int .i64 1, some (begH ob0), some (tabH ob1), some (atB w 1)) := by kernel_rfl
theorem code_run11 (w : List UInt8) (ob0 ob1 : Obj) : closedR3 (PP.globals.size + 1) (evCall PP prims6 4000 11 [.iface 235 (.ptr (some (PP.globals.size + 1, 0)))] (AH.start3 (PP.globals.size + 1) (begH ob0) (tabH ob1) (atB w 11))) = some (.int .i64 11, some (begH ob0), some (tabH ob1), some (atB w 11)) := by kernel_rfl
theorem code_run12 (w : List UInt8) (ob0 ob1 : Obj) : closedR3 (PP.globals.size + 1) (evCall PP prims6 4000 11 [.iface 235 (.ptr (some (PP.globals.size + 1, 0)))] (AH.start3 (PP.globals.size + 1) (begH ob0) (tabH ob1) (atB w 12))) = some (.int .i64 12, some (begH ob0), some (tabH ob1), some (atB w 12)) := by kernel_rfl
theorem code_run {n : Int} (hn : n ∈ codesN) (w : List UInt8) (ob0 ob1 : Obj) : closedR3 (PP.globals.size + 1) (evCall PP prims6 4000 11 [.iface 235 (.ptr (some (PP.globals.size + 1, 0)))] (AH.start3 (PP.globals.size + 1) (begH ob0) (tabH ob1) (atB w n))) = some (.int .i64 n, some (begH ob0), some (tabH ob1), some (atB w n)) := by
  simp only [List.mem_cons, List.not_mem_nil, or_false] at hn
  rcases hn with rfl | rfl | rfl
  · exact code_run1 w ob0 ob1
  · exact code_run11 w ob0 ob1
  · exact code_run12 w ob0 ob1
theorem ErrX.one {e : AV} {n m : Int} (h : ErrX H e n) (h' : ErrX H e m) : n = m := by
  obtain ⟨b, w, rfl, g, _⟩ := h
  obtain ⟨b', w', q, g', _⟩ := h'
  cases q
  rw [g] at g'
  cases g'; rfl
open Classical in
def codeA (args : List AV) (H : AH) : Option (AV × AH) := if h : ∃ n, ∃ e, args = [e] ∧ ErrX H e n ∧ n ∈ codesN ∧ Laid2 H then some (.int .i64 h.choose, H) else none
theorem code_at : PrimAt PP 11 codeA := by
  intro args args' ρ H w v H' hg hr ha
  unfold codeA at hg
  split at hg
  case isFalse => cases hg
  rename_i h
  have hs := h.choose_spec
  generalize h.choose = n at *
  obtain ⟨e, rfl, ⟨b, w0, rfl, h2, h3⟩, hn, hl⟩ := hs
  cases hg
  have hb : hasBody PP 11 = true := by kernel_rfl
  refine ⟨fun _ m => small_at3 prims6_ok seat_mixed seat_ok hb globs tabV_rel (fun y hy => ?_) (v := .int .i64 n) (fun _ _ _ h => h) (code_run hn w0) hr hl.h0 hl.h1 h2 ha m, fun q => (by rw [hb] at q; cases q)⟩
  simp only [List.mem_cons, List.not_mem_nil, or_false] at hy
  rcases hy with rfl | rfl
  · exact ⟨rfl, fun _ _ _ h => h⟩
  · exact ⟨rfl, fun _ _ _ h => h⟩
def prims26 : PrimF := addP 11 codeA <| addP 12 (viaA 12) <| addP 15 (viaA 15) <| prims25
abbrev C26 : CW := WP PP prims26
theorem prims26_ok : PrimOk PP prims26 := PrimOk.add (PrimOk.add (PrimOk.add prims25_ok (via_at (by kernel_rfl))) (via_at (by kernel_rfl))) code_at
theorem begun26_wp (h : Laid2 H) (K : AV → AH → Prop) (hK : K (.bool true) H) : C26.call 7 [] H K := by
  refine prim_wp (P := PP) (prim := prims26) (g := beg2A) (v := .bool true) (H' := H) (by kernel_rfl) ?_ hK
  show br (isLaid 272 PP.globals.size 30 (H.get 0)) (br (isTab tabV (H.get 1)) (some (AV.bool true, H)) none) none = _
  rw [h.h0, h.h1]; rfl
theorem errCode_wp {e : AV} {n : Int} (he : ErrX H e n) (hn : n ∈ codesN) (h : Laid2 H) (K : AV → AH → Prop) (hK : K (.int .i64 n) H) : C26.call 11 [e] H K := by
  refine prim_wp (P := PP) (prim := prims26) (g := codeA) (v := .int .i64 n) (H' := H) (by kernel_rfl) ?_ hK
  have q : ∃ n, ∃ e', [e] = [e'] ∧ ErrX H e' n ∧ n ∈ codesN ∧ Laid2 H := ⟨n, e, rfl, he, hn, h⟩
  unfold codeA
  rw [dif_pos q]
  obtain ⟨e', q1, q2, _⟩ := q.choose_spec
  cases q1
  rw [ErrX.one q2 he]
end
end Go.Ab
