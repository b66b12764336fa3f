/- slices.AppendSeq at []int: what a function that yields makes of it. -/
import Derived.Test.YtlbjmgpbgkiejaaGreatDoorRange
import Derived.Test.YtlbjmgpbgkiejaaGreatDoorNums
namespace Go.Ab
noncomputable section
open Go.Proofs
set_option maxRecDepth 10000
variable {H H' : AH}

theorem ints_sl : PP.underlying 54 = some (.slice 3) := by kernel_rfl
theorem int_el' : elT PP 3 = some (1, [.int .i64 0]) := by kernel_rfl
abbrev asF : Nat := 265
def rgAsg : Code → Code
  | .rangeFunc _ _ a _ => a
  | c => c
def rgBody : Code → Code
  | .rangeFunc _ _ _ b => b
  | c => c
abbrev asA : Code := subC (bodyC PP asF) [0]
abbrev asB : Code := subC (bodyC PP asF) [1, 0, 0]
abbrev asC : Code := subC (bodyC PP asF) [1, 1]
abbrev asG : Code := rgAsg (subC (bodyC PP asF) [1, 0, 1, 0])
abbrev asY : Code := rgBody (subC (bodyC PP asF) [1, 0, 1, 0])
theorem asA_eq (K : KP) (a : TE) (H : AH) : codeP PP CC asA K a H = outP CC H (w_box 54 H (a 0) none) fun v1 H1 => K .normal ((a.setO (some 2) v1).setO (some 4) (.slice none 0 0 true)) H1 := by kernel_rfl
theorem asB_eq (K : KP) (a : TE) (H : AH) : codeP PP CC asB K a H = K .normal (a.setO (some 6) (a 1)) H := by kernel_rfl
theorem asC_eq (K : KP) (a : TE) (H : AH) : codeP PP CC asC K a H = outP CC H (w_load none H (a 2)) fun v H1 => K .ret ((a.setO (some 12) v).setO (some 4) v) H1 := by kernel_rfl
theorem asG_eq (K : KP) (a : TE) (H : AH) : codeP PP CC asG K a H = K .normal (a.setO (some 5) (a 7)) H := by kernel_rfl
theorem asY_eq (K : KP) (a : TE) (H : AH) : codeP PP CC asY K a H = outP CC H (w_load none H (a 2)) fun v8 H1 => outP CC H1 (w_buildSlice PP 3 1 H1 [(0, a 5)] none) fun v10 H2 =>
    outP CC H2 (w_append 3 1 8 H2 v8 v10 none) fun v11 H3 => outP CC H3 (w_store 1 H3 (a 2) v11) fun v H4 => K .normal (((((a.setO (some 8) v8).setO (some 9) (a 5)).setO (some 10) v10).setO (some 11) v11).setO none v) H4 := by kernel_rfl
theorem as_body : Tryz.f265.body = some (.seq asA (.seq (.seq asB (.block 0 (.rangeFunc (.tmp 6) #[7] asG asY))) asC)) := by kernel_rfl
theorem as_ok : codeOk PP Tryz.f265.ntmps (.seq asA (.seq (.seq asB (.block 0 (.rangeFunc (.tmp 6) #[7] asG asY))) asC)) = true := by kernel_rfl

/-- What holds between the rounds: what was yielded so far lies in a slice of its own. H0: the heap at the call. -/
structure Sq (H0 G : AH) (L : List Int) : Prop where
  ext : Ext [] H0 G
  row : ∃ B s, G.get H0.next = some (.cells 54 [s]) ∧ Os 3 .i64 G B s L ∧ H0.next + 2 < B
  defd : G.get (H0.next + 1) = some .defd
  loop : ∃ tm a, G.get (H0.next + 2) = some (.loop .ready none asF tm #[7] asG asY (H0.next + 1)) ∧ TmEq Tryz.f265.ntmps tm a ∧ a 2 = .ptr (some (H0.next, 0))
  next : H0.next + 2 < G.next
theorem sq_round {H0 G : AH} {L : List Int} (h : Sq H0 G L) (hL : L.length ≤ 100000) (x : Int) (K : AV → AH → Prop) (hK : ∀ G', Sq H0 G' (L ++ [x]) → K (.bool true) G') : CC.round (H0.next + 2) [.int .i64 x] G K := by
  obtain ⟨B, s, g1, o1, hB⟩ := h.row
  obtain ⟨tm, a, g3, ht, ha⟩ := h.loop
  have hn := h.next
  have ht1 : TmEq Tryz.f265.ntmps (tm.set 7 (.int .i64 x)) (a.setO (some 7) (.int .i64 x)) := ht.setO (d := some 7) (by kernel_rfl) (.int .i64 x)
  refine round_ok (N := Tryz.f265.ntmps) g3 rfl ht1 (by kernel_rfl) (by kernel_rfl) ?_
  show codeP PP CC asG _ _ _
  rw [asG_eq]
  refine ⟨rfl, _, _, _, _, _, _, _, g3, ?_⟩
  show codeP PP CC asY _ _ _
  rw [asY_eq]
  have e2 : ((a.setO (some 7) (.int .i64 x)).setO (some 5) ((a.setO (some 7) (.int .i64 x)) 7)) 2 = .ptr (some (H0.next, 0)) := ha
  have e5 : ((a.setO (some 7) (.int .i64 x)).setO (some 5) ((a.setO (some 7) (.int .i64 x)) 7)) 5 = .int .i64 x := rfl
  rw [e2, e5]
  obtain ⟨f1, f2, _, f3⟩ := Sl.facts o1.sl
  have gc : (G.put (H0.next + 2) (some (.loop .busy none asF tm #[7] asG asY (H0.next + 1)))).get H0.next = some (.cells 54 [s]) := by rw [get_put_ne _ (by omega)]; exact g1
  have x1 : Ext [H0.next + 2] G (G.put (H0.next + 2) (some (.loop .busy none asF tm #[7] asG asY (H0.next + 1)))) := (Ext.refl _ _).put (.inr (by simp)) _
  have hn1 : (G.put (H0.next + 2) (some (.loop .busy none asF tm #[7] asG asY (H0.next + 1)))).next = G.next := AH.next_put _ _ _
  have gl : (G.put (H0.next + 2) (some (.loop .busy none asF tm #[7] asG asY (H0.next + 1)))).get (H0.next + 2) = some (.loop .busy none asF tm #[7] asG asY (H0.next + 1)) := get_put_same _ _
  generalize G.put (H0.next + 2) (some (.loop .busy none asF tm #[7] asG asY (H0.next + 1))) = G1 at *
  rw [w_load_c, gc, ldV_cells, show ([s] : List AV)[0]? = some s from rfl, ob_some, f2, vO_some, outP_val]
  have o2 : Os 3 .i64 G1 B s L := Own.mono o1 x1 (by simp; omega)
  -- an empty slice's block may be taken behind all
  obtain ⟨B0, hB0, o3⟩ : ∃ B0, (B0 = B ∧ B < G1.next ∨ B0 = G1.next) ∧ Os 3 .i64 G1 B0 s L := by
    rcases o2.ex with ⟨q1, q2⟩ | ⟨o, c, ex, cs, q1, q2, q3, q4, q5, q6, q7⟩
    · refine ⟨G1.next, .inr rfl, ?_⟩
      rw [q1, List.map_eq_nil_iff.1 q2]; exact os_nil _ _ _
    · exact ⟨B, .inl ⟨rfl, q7⟩, o2⟩
  refine push_num int_el' (by omega) o3 hL x _ fun G2 s2 B2 x2 hB2 o4 => ?_
  have n2 := x2.next
  obtain ⟨k1, k2, _, k3⟩ := Sl.facts o4.sl
  have gc2 : G2.get H0.next = some (.cells 54 [s]) := x2.get (by omega) (by simp; omega) gc
  have gl2 := x2.get (b := H0.next + 2) (by omega) (by simp; omega) gl
  have gd2 : G2.get (H0.next + 1) = some .defd := x2.get (by omega) (by simp; omega) (x1.get (by omega) (by simp) h.defd)
  rw [w_store_c, gc2, stN_one _ _ _ _ _ k1 Nat.zero_lt_one, outP_skip]
  refine ⟨rfl, _, _, _, _, _, _, _, _, (by rw [get_put_ne _ (by omega)]; exact gl2), hK _ ⟨?_, ⟨B2, s2, ?_, ?_, ?_⟩, ?_, ⟨tm, a, get_put_same _ _, ht, ha⟩, ?_⟩⟩
  · have x0 := h.ext.next
    refine ((((h.ext.mono (m' := [H0.next, H0.next + 2, B0]) (by simp)).trans (x1.mono (by simp))).trans (x2.mono (by simp))).put (.inr (by simp)) _).put (.inr (by simp)) _ |>.mono fun q hq hlt => ?_
    simp at hq; omega
  · rw [get_put_ne _ (by omega), get_put_same]; rfl
  · exact (Own.mono (Own.mono o4 ((Ext.refl [H0.next] _).put (.inr (by simp)) _) (by simp; omega)) ((Ext.refl [H0.next + 2] _).put (.inr (by simp)) _) (by simp; omega))
  · omega
  · rw [get_put_ne _ (by omega), get_put_ne _ (by omega)]; exact gd2
  · rw [AH.next_put, AH.next_put]; omega
/-- What it makes, if what it ranges over keeps what holds between the rounds. -/
theorem appendSeq_wp {f' : FuncId} {first cap : List AV} (hb : hasBody PP f' = true) (K : AV → AH → Prop)
    (h : ∀ G, Sq H G [] → CC.call f' (first ++ [.yld (H.next + 2)] ++ cap) G fun _ G' => ∃ L, Sq H G' L ∧ ∀ G'' B s, Ext [] H G'' → H.next ≤ B → Os 3 .i64 G'' B s L → K s G'') :
    CC.call 265 [.slice none 0 0 true, .fn (.func f') first cap] H K := by
  refine rangeFn_ok (fn := Tryz.f265) (by kernel_rfl) (by kernel_rfl) Tryz.func265 as_body as_ok (Nat.le_of_ble_eq_true (by kernel_rfl)) ?_
  show codeP PP CC asA _ _ _
  rw [asA_eq]
  have e0 : argE [AV.slice none 0 0 true, .fn (.func f') first cap] 0 = .slice none 0 0 true := rfl
  rw [e0, w_box_c, parts_slice, show [AV.slice none 0 0 true].all AV.one = true from rfl, br_true, outP_val]
  refine ⟨rfl, ?_⟩
  show codeP PP CC asB _ _ _
  rw [asB_eq]
  refine ⟨rfl, f', first, cap, rfl, hb, fun tm ht => ?_⟩
  rw [next_new]
  refine WP.mono (h _ ⟨?_, ⟨H.next + 3, .slice none 0 0 true, ?_, os_nil _ _ _, by omega⟩, ?_, ⟨tm, _, get_new_same _ _, ht, rfl⟩, ?_⟩) ?_
  · exact (((Ext.refl _ _).new _).new _).new _
  · rw [get_new, if_neg (by rw [next_new, next_new]; omega), get_new, if_neg (by rw [next_new]; omega), get_new_same]
  · rw [get_new, if_neg (by rw [next_new, next_new]; omega), show H.next + 1 = (H.new (.cells 54 [.slice none 0 0 true])).next from rfl, get_new_same]
  · rw [next_new, next_new, next_new]; omega
  · rintro v G' ⟨L, hs, hk⟩
    obtain ⟨B, s, g1, o1, hB⟩ := hs.row
    obtain ⟨tm', a', g3, ht', ha'⟩ := hs.loop
    have hn := hs.next
    refine ⟨.ready, _, _, _, _, _, _, g3, by simp, ?_⟩
    show codeP PP CC asC _ _ _
    rw [asC_eq]
    obtain ⟨f1, f2, _, f3⟩ := Sl.facts o1.sl
    have e2 : ((((argE [AV.slice none 0 0 true, .fn (.func f') first cap]).setO (some 2) (.ptr (some (H.next, 0)))).setO (some 4) (.slice none 0 0 true)).setO (some 6) ((((argE [AV.slice none 0 0 true, .fn (.func f') first cap]).setO (some 2) (.ptr (some (H.next, 0)))).setO (some 4) (.slice none 0 0 true)) 1)) 2 = .ptr (some (H.next, 0)) := rfl
    rw [e2, w_load_c, get_put_ne _ (by omega), g1, ldV_cells, show ([s] : List AV)[0]? = some s from rfl, ob_some, f2, vO_some, outP_val]
    refine ⟨by simp, ?_, ?_⟩
    · rw [get_put_ne _ (by omega)]; exact hs.defd
    · show K s _
      refine hk _ B s ?_ (by omega) ?_
      · refine ((hs.ext.mono (m' := [H.next + 1, H.next + 2]) (by simp)).put (.inr (by simp)) _).put (.inr (by simp)) _ |>.mono fun q hq hlt => ?_
        simp at hq; omega
      · exact Own.mono (Own.mono o1 ((Ext.refl [H.next + 1 + 1] _).put (.inr (by simp)) _) (by simp; omega)) ((Ext.refl [H.next + 1] _).put (.inr (by simp)) _) (by simp; omega)
end
end Go.Ab
