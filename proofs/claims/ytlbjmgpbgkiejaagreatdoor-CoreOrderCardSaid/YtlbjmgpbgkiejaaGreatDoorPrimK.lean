/- Errors that say where: what their number is, as a step. -/
import Derived.Test.YtlbjmgpbgkiejaaGreatDoorPrim25
import Derived.Test.YtlbjmgpbgkiejaaGreatDoorSmall3
import Derived.Test.YtlbjmgpbgkiejaaGreatDoorMB
import Derived.Test.YtlbjmgpbgkiejaaGreatDoorPoolX
import Derived.Test.YtlbjmgpbgkiejaaGreatDoorVecK
namespace Go.Ab
noncomputable section
open Go.Proofs
set_option maxRecDepth 10000
variable {H H' : AH}

/-- An error that says where: a number is in it. -/
abbrev atB (w : List UInt8) (n : Int) : ABlk := .cells 233 [.str w, .iface 44 (.int .i64 n)]
def ErrX (H : AH) (e : AV) (n : Int) : Prop := ∃ b w, e = .iface 231 (.ptr (some (b, 0))) ∧ H.get b = some (atB w n) ∧ b < H.next
theorem ErrX.mono {e : AV} {n : Int} (h : ErrX H e n) (x : Ext [] H H') : ErrX H' e n := by
  obtain ⟨b, w, h1, h2, h3⟩ := h
  exact ⟨b, w, h1, x.get h3 (by simp) h2, Nat.lt_of_lt_of_le h3 x.next⟩
theorem ErrX.one {e : AV} {n m : Int} (h : ErrX H e n) (h' : ErrX H e m) : n = m := by
  obtain ⟨b, w, rfl, g, _⟩ := h
  obtain ⟨b', w', q, g', _⟩ := h'
  cases q
  rw [g] at g'
  cases g'; rfl
theorem Laid2.mono (h : Laid2 H) (hlt : 1 < H.next) {m : List Nat} (hm : ∀ b ∈ m, 1 < b) (x : Ext m H H') : Laid2 H' :=
  ⟨by rw [x.same 0 (by omega) (fun q => by have := hm _ q; omega)]; exact h.h0, by rw [x.same 1 hlt (fun q => by have := hm _ q; omega)]; exact h.h1⟩
theorem err_nil1 (n : Int) : w_eq PP .eql 36 false true H (.iface 44 (.int .i64 n)) .nilIface = some (.val (.bool false) H) := by kernel_rfl
theorem err_ok (n : Int) : w_eq PP .eql 36 false false H (.iface 44 (.int .i64 n)) (.iface 44 (.int .i64 0)) = some (.val (.bool (eqZ n 0)) H) := by kernel_rfl
theorem at_build (w : List UInt8) (n : Int) : w_build PP 233 H [(0, .str w), (1, .iface 44 (.int .i64 n))] = some (.val (.agg [.str w, .iface 44 (.int .i64 n)]) H) := by kernel_rfl
theorem failAt_wp (w : List UInt8) (n : Int) (K : AV → AH → Prop) (h0 : n = 0 → K .nilIface H) (hK : n ≠ 0 → ∀ H' e, Ext [] H H' → ErrX H' e n → K e H') : CC.call 76 [.str w, .iface 44 (.int .i64 n)] H K := by
  refine m_fail_At_ok _ _ _ _ ?_
  unfold m_fail_At
  by_cases hn : n = 0
  · have z : eqZ n 0 = true := by rw [eqZ_eq]; simpa using hn
    repeat (first | rw [outP_val] | rw [guardP_true] | rw [condP_true] | rw [err_nil1] | rw [err_ok] | rw [z] | rw [boolIs_bool] | rw [beq_ff] | rw [Bool.not_false] | rw [w_pick_b] | rw [if_neg Bool.false_ne_true])
    exact h0 hn
  have z : eqZ n 0 = false := by rw [eqZ_eq]; simpa using hn
  repeat (first | rw [outP_val] | rw [guardP_true] | rw [err_nil1] | rw [err_ok] | rw [z] | rw [condP_false] | rw [boolIs_bool] | rw [beq_ff] | rw [Bool.not_false] | rw [w_pick_b] | rw [if_neg Bool.false_ne_true])
  rw [at_build, outP_val, w_box_one (by rfl), outP_val, outP_val]
  exact hK hn _ _ ((Ext.refl _ _).new _) ⟨H.next, _, rfl, get_new_same _ _, by rw [next_new]; omega⟩
/-- The numbers of which it is known. -/
abbrev codesN : List Int := [1, 2, 3, 4, 5, 6, 7, 8, 9, 10, 11, 12]
theorem code_run1 (w : List UInt8) (ob0 ob1 : Obj) : closedR3 (PP.globals.size + 1) (evCall PP prims6 4000 12 [.iface 231 (.ptr (some (PP.globals.size + 1, 0)))] (AH.start3 (PP.globals.size + 1) (begH ob0) (tabH ob1) (atB w 1))) = some (.int .i64 1, some (begH ob0), some (tabH ob1), some (atB w 1)) := by kernel_rfl
theorem code_run2 (w : List UInt8) (ob0 ob1 : Obj) : closedR3 (PP.globals.size + 1) (evCall PP prims6 4000 12 [.iface 231 (.ptr (some (PP.globals.size + 1, 0)))] (AH.start3 (PP.globals.size + 1) (begH ob0) (tabH ob1) (atB w 2))) = some (.int .i64 2, some (begH ob0), some (tabH ob1), some (atB w 2)) := by kernel_rfl
theorem code_run3 (w : List UInt8) (ob0 ob1 : Obj) : closedR3 (PP.globals.size + 1) (evCall PP prims6 4000 12 [.iface 231 (.ptr (some (PP.globals.size + 1, 0)))] (AH.start3 (PP.globals.size + 1) (begH ob0) (tabH ob1) (atB w 3))) = some (.int .i64 3, some (begH ob0), some (tabH ob1), some (atB w 3)) := by kernel_rfl
theorem code_run4 (w : List UInt8) (ob0 ob1 : Obj) : closedR3 (PP.globals.size + 1) (evCall PP prims6 4000 12 [.iface 231 (.ptr (some (PP.globals.size + 1, 0)))] (AH.start3 (PP.globals.size + 1) (begH ob0) (tabH ob1) (atB w 4))) = some (.int .i64 4, some (begH ob0), some (tabH ob1), some (atB w 4)) := by kernel_rfl
theorem code_run5 (w : List UInt8) (ob0 ob1 : Obj) : closedR3 (PP.globals.size + 1) (evCall PP prims6 4000 12 [.iface 231 (.ptr (some (PP.globals.size + 1, 0)))] (AH.start3 (PP.globals.size + 1) (begH ob0) (tabH ob1) (atB w 5))) = some (.int .i64 5, some (begH ob0), some (tabH ob1), some (atB w 5)) := by kernel_rfl
theorem code_run6 (w : List UInt8) (ob0 ob1 : Obj) : closedR3 (PP.globals.size + 1) (evCall PP prims6 4000 12 [.iface 231 (.ptr (some (PP.globals.size + 1, 0)))] (AH.start3 (PP.globals.size + 1) (begH ob0) (tabH ob1) (atB w 6))) = some (.int .i64 6, some (begH ob0), some (tabH ob1), some (atB w 6)) := by kernel_rfl
theorem code_run7 (w : List UInt8) (ob0 ob1 : Obj) : closedR3 (PP.globals.size + 1) (evCall PP prims6 4000 12 [.iface 231 (.ptr (some (PP.globals.size + 1, 0)))] (AH.start3 (PP.globals.size + 1) (begH ob0) (tabH ob1) (atB w 7))) = some (.int .i64 7, some (begH ob0), some (tabH ob1), some (atB w 7)) := by kernel_rfl
theorem code_run8 (w : List UInt8) (ob0 ob1 : Obj) : closedR3 (PP.globals.size + 1) (evCall PP prims6 4000 12 [.iface 231 (.ptr (some (PP.globals.size + 1, 0)))] (AH.start3 (PP.globals.size + 1) (begH ob0) (tabH ob1) (atB w 8))) = some (.int .i64 8, some (begH ob0), some (tabH ob1), some (atB w 8)) := by kernel_rfl
theorem code_run9 (w : List UInt8) (ob0 ob1 : Obj) : closedR3 (PP.globals.size + 1) (evCall PP prims6 4000 12 [.iface 231 (.ptr (some (PP.globals.size + 1, 0)))] (AH.start3 (PP.globals.size + 1) (begH ob0) (tabH ob1) (atB w 9))) = some (.int .i64 9, some (begH ob0), some (tabH ob1), some (atB w 9)) := by kernel_rfl
theorem code_run10 (w : List UInt8) (ob0 ob1 : Obj) : closedR3 (PP.globals.size + 1) (evCall PP prims6 4000 12 [.iface 231 (.ptr (some (PP.globals.size + 1, 0)))] (AH.start3 (PP.globals.size + 1) (begH ob0) (tabH ob1) (atB w 10))) = some (.int .i64 10, some (begH ob0), some (tabH ob1), some (atB w 10)) := by kernel_rfl
theorem code_run11 (w : List UInt8) (ob0 ob1 : Obj) : closedR3 (PP.globals.size + 1) (evCall PP prims6 4000 12 [.iface 231 (.ptr (some (PP.globals.size + 1, 0)))] (AH.start3 (PP.globals.size + 1) (begH ob0) (tabH ob1) (atB w 11))) = some (.int .i64 11, some (begH ob0), some (tabH ob1), some (atB w 11)) := by kernel_rfl
theorem code_run12 (w : List UInt8) (ob0 ob1 : Obj) : closedR3 (PP.globals.size + 1) (evCall PP prims6 4000 12 [.iface 231 (.ptr (some (PP.globals.size + 1, 0)))] (AH.start3 (PP.globals.size + 1) (begH ob0) (tabH ob1) (atB w 12))) = some (.int .i64 12, some (begH ob0), some (tabH ob1), some (atB w 12)) := by kernel_rfl
theorem code_run {n : Int} (hn : n ∈ codesN) (w : List UInt8) (ob0 ob1 : Obj) : closedR3 (PP.globals.size + 1) (evCall PP prims6 4000 12 [.iface 231 (.ptr (some (PP.globals.size + 1, 0)))] (AH.start3 (PP.globals.size + 1) (begH ob0) (tabH ob1) (atB w n))) = some (.int .i64 n, some (begH ob0), some (tabH ob1), some (atB w n)) := by
  simp only [List.mem_cons, List.not_mem_nil, or_false] at hn
  rcases hn with rfl | rfl | rfl | rfl | rfl | rfl | rfl | rfl | rfl | rfl | rfl | rfl
  · exact code_run1 w ob0 ob1
  · exact code_run2 w ob0 ob1
  · exact code_run3 w ob0 ob1
  · exact code_run4 w ob0 ob1
  · exact code_run5 w ob0 ob1
  · exact code_run6 w ob0 ob1
  · exact code_run7 w ob0 ob1
  · exact code_run8 w ob0 ob1
  · exact code_run9 w ob0 ob1
  · exact code_run10 w ob0 ob1
  · exact code_run11 w ob0 ob1
  · exact code_run12 w ob0 ob1
open Classical in
def codeA (args : List AV) (H : AH) : Option (AV × AH) := if h : ∃ n, ∃ e, args = [e] ∧ ErrX H e n ∧ n ∈ codesN ∧ Laid2 H then some (.int .i64 h.choose, H) else none
theorem code_at : PrimAt PP 12 codeA := by
  intro args args' ρ H w v H' hg hr ha
  unfold codeA at hg
  split at hg
  case isFalse => cases hg
  rename_i h
  have hs := h.choose_spec
  generalize h.choose = n at *
  obtain ⟨e, rfl, ⟨b, w0, rfl, h2, h3⟩, hn, hl⟩ := hs
  cases hg
  have hb : hasBody PP 12 = true := by kernel_rfl
  refine ⟨fun _ m => small_at3 prims6_ok seat_mixed seat_ok hb globs tabV_rel (fun y hy => ?_) (v := .int .i64 n) (fun _ _ _ h => h) (code_run hn w0) hr hl.h0 hl.h1 h2 ha m, fun q => (by rw [hb] at q; cases q)⟩
  simp only [List.mem_cons, List.not_mem_nil, or_false] at hy
  rcases hy with rfl | rfl
  · exact ⟨rfl, fun _ _ _ h => h⟩
  · exact ⟨rfl, fun _ _ _ h => h⟩
def codeK : List AV → AH → Option (AV × AH) := orA codeA (viaA 12)
theorem codeK_at : PrimAt PP 12 codeK := or_at code_at (via_at (by kernel_rfl))
theorem errCode_wp {prim : PrimF} (hp : prim 12 = some codeK) {e : AV} {n : Int} (he : ErrX H e n) (hn : n ∈ codesN) (h : Laid2 H) (K : AV → AH → Prop) (hK : K (.int .i64 n) H) : (WP PP prim).call 12 [e] H K := by
  refine prim_wp (g := codeK) (v := .int .i64 n) (H' := H) hp ?_ hK
  have q : ∃ n, ∃ e', [e] = [e'] ∧ ErrX H e' n ∧ n ∈ codesN ∧ Laid2 H := ⟨n, e, rfl, he, hn, h⟩
  have : codeA [e] H = some (.int .i64 n, H) := by
    unfold codeA
    rw [dif_pos q]
    obtain ⟨e', q1, q2, _⟩ := q.choose_spec
    cases q1
    rw [ErrX.one q2 he]
  unfold codeK orA
  rw [this]
theorem okCode_wp {prim : PrimF} (hp : prim 12 = some codeK) (K : AV → AH → Prop) (hK : K (.int .i64 0) H) : (WP PP prim).call 12 [.nilIface] H K := by
  refine prim_wp (g := codeK) (v := .int .i64 0) (H' := H) hp ?_ hK
  have : codeA [.nilIface] H = none := by
    unfold codeA
    rw [dif_neg]
    rintro ⟨n, e, q, ⟨b, w, rfl, _⟩, _⟩
    cases q
  have h2 : CC.call 12 [.nilIface] H fun v H' => v = .int .i64 0 ∧ H' = H := by
    refine m_fail_Code_ok _ _ _ ?_
    unfold m_fail_Code
    have z : ∀ G : AH, w_eq PP .eql 36 false true G .nilIface .nilIface = some (.val (.bool true) G) := fun G => by kernel_rfl
    rw [z, outP_val, condP_true]
    exact ⟨rfl, rfl⟩
  obtain ⟨n, v, H', q1, rfl, rfl⟩ := h2
  unfold codeK orA
  rw [this]
  exact via_says ⟨n, q1⟩
end
end Go.Ab
/- The core's steps. -/
namespace Go.Ab
noncomputable section
open Go.Proofs
set_option maxRecDepth 10000
variable {H H' : AH}

def primsK : PrimF := addP 12 codeK <| addP 76 (viaA 76) <| addP 87 (viaA 87) <| addP 149 (viaA 149) <| addP 121 (viaA 121) <| addP 122 (viaA 122) <| addP 52 (viaA 52) <| prims23
abbrev CQ : CW := WP PP primsK
theorem primsK_ok : PrimOk PP primsK :=
  PrimOk.add (PrimOk.add (PrimOk.add (PrimOk.add (PrimOk.add (PrimOk.add (PrimOk.add prims23_ok (via_at (by kernel_rfl))) (via_at (by kernel_rfl))) (via_at (by kernel_rfl))) (via_at (by kernel_rfl))) (via_at (by kernel_rfl))) (via_at (by kernel_rfl))) codeK_at
theorem begunK_wp (h : Laid2 H) (K : AV → AH → Prop) (hK : K (.bool true) H) : CQ.call 7 [] H K := by
  refine prim_wp (P := PP) (prim := primsK) (g := beg2A) (v := .bool true) (H' := H) (by kernel_rfl) ?_ hK
  show br (isLaid 302 PP.globals.size 36 (H.get 0)) (br (isTab tabV (H.get 1)) (some (AV.bool true, H)) none) none = _
  rw [h.h0, h.h1]; rfl
theorem nodup_unlikeI : ∀ {l : List Int}, l.Nodup → unlikeI l = true
  | [], _ => rfl
  | x :: l, h => by
    obtain ⟨h1, h2⟩ := List.nodup_cons.1 h
    show br (memI x l) false (unlikeI l) = true
    have : memI x l = false := Bool.eq_false_iff.2 fun q => h1 ((memI_iff x l).1 q)
    rw [this, br_false, nodup_unlikeI h2]
theorem nodup_unlikeN : ∀ {l : List Nat}, l.Nodup → unlikeN l = true
  | [], _ => rfl
  | x :: l, h => by
    obtain ⟨h1, h2⟩ := List.nodup_cons.1 h
    show br (memN x l) false (unlikeN l) = true
    have : memN x l = false := Bool.eq_false_iff.2 fun q => h1 ((memN_iff x l).1 q)
    rw [this, br_false, nodup_unlikeN h2]
theorem keys_ents : ∀ M : Me, (∀ x ∈ keysM M, -9223372036854775808 ≤ x ∧ x ≤ 9223372036854775807) → allM keyI (ents M) = some (keysM M)
  | [], _ => rfl
  | e :: M, hi => by
    have h1 : keyI (AV.int .i64 e.1, e.2.1, e.2.2) = some e.1 := by
      show br (leZ (-9223372036854775808) e.1 && leZ e.1 9223372036854775807) (some e.1) none = _
      have := hi e.1 (by simp)
      rw [leZ_eq, leZ_eq, decide_eq_true this.1, decide_eq_true this.2]
      rfl
    show ob (keyI (AV.int .i64 e.1, e.2.1, e.2.2)) (fun y => ob (allM keyI (ents M)) fun ys => some (y :: ys)) = _
    rw [h1, ob_some, keys_ents M fun x hx => hi x (by simp at hx ⊢; exact .inr hx), ob_some]
    rfl
/-- A map's keys, sorted. -/
theorem keysK_wp {g p o m clk : Nat} {e : TypeId} {cs : List AV} {M : Me} (hg : memN g gks = true) (hp : H.get p = some (.cells e cs)) (ho : cs[o]? = some (.map (some m))) (hm : H.get m = some (.mp (ents M) clk)) (hs : St M clk) (hn : (keysM M).Nodup) (hi : ∀ x ∈ keysM M, -9223372036854775808 ≤ x ∧ x ≤ 9223372036854775807) (hl : M.length ≤ 100000)
    (K : AV → AH → Prop) (h0 : M = [] → K (.slice none 0 0 true) H) (h1 : M ≠ [] → K (.slice (some (H.next, 0)) M.length M.length false) (H.new (.cells 3 ((sortZ (keysM M)).map (AV.int .i64))))) : CQ.call 119 [.fn (.func g) [] [.ptr (some (p, o))]] H K := by
  have ok : okE (ents M) clk (keysM M) = true := by
    unfold okE
    rw [allB_eq]
    simp only [Bool.and_eq_true, List.length_map, List.map_map]
    refine ⟨⟨⟨Nat.ble_eq_true_of_le hl, List.all_eq_true.2 fun x hx => ?_⟩, nodup_unlikeN ?_⟩, nodup_unlikeI hn⟩
    · obtain ⟨y, hy, rfl⟩ := List.mem_map.1 hx
      exact Nat.ble_eq_true_of_le (hs.1 y hy)
    · exact hs.2
  have key : keysA gks [.fn (.func g) [] [.ptr (some (p, o))]] H = onCons (some (.slice none 0 0 true, H)) (fun _ _ => some (.slice (some (H.next, 0)) (keysM M).length (keysM M).length false, H.new (.cells 3 ((sortI (keysM M)).map (AV.int .i64))))) (keysM M) := by
    show rowTo none H p _ _ = _
    unfold rowTo
    rw [hp]
    show ob (nthO cs o) _ = _
    rw [nthO_eq, ho, ob_some]
    show mpTo none H m _ = _
    unfold mpTo
    rw [hm]
    show br (memN g gks) (ob (allM keyI (ents M)) _) none = _
    rw [hg, br_true, keys_ents M hi, ob_some]
    show br (okE (ents M) clk (keysM M)) _ none = _
    rw [ok, br_true]
  cases M with
  | nil =>
    refine prim_wp (P := PP) (prim := primsK) (g := sortedA) (by kernel_rfl) ?_ (h0 rfl)
    unfold sortedA orA
    rw [key]
    rfl
  | cons x M =>
    refine prim_wp (P := PP) (prim := primsK) (g := sortedA) (by kernel_rfl) ?_ (h1 (by simp))
    unfold sortedA orA
    rw [key, sortI_eq]
    show some (AV.slice (some (H.next, 0)) (keysM (x :: M)).length (keysM (x :: M)).length false, _) = _
    rw [List.length_map]
end
end Go.Ab
