/- fieldfarelaw7.MetricOrder answers true at any three hits, in whatever world in which errors.errorType is as the program's text lays it; the input reads as it did. -/
import Derived.Test.YtoafnnphjbdedaaGreatDoorMo
import Derived.Test.YtoafnnphjbdedaaGreatDoorRow
namespace Go.Proofs.YtoafnnphjbdedaaGreatDoor
open Go.ChangeShapes Go.WideShapes Go.RowKit Go.Ab Go.Joins

set_option maxRecDepth 100000
/-- A hit, by value. -/
theorem open_hit {H : Type} {enc : TypeId × Value → H} {w : World} {base : Nat} {spare : Nat → Bool} {held : Bool} {r : Reach} {b0 : Nat} {v : Value} {d : DataW H} {p : List MemPlace}
    (hv : Value.okWide Tryz.prog w r b0 37 v) (h : DataW.Trod enc Tryz.prog w base spare held 37 v d p) : ∃ x : Int × Int, v = .agg #[.int .i64 x.1, .int .i64 x.2] := by
  obtain ⟨v0, v1, y0, y1, n, rfl, _, _, h0, h1⟩ := open_agg2 Tryz.underlying37 (by kernel_rfl) (by kernel_rfl) hv h
  obtain ⟨a, e0, _⟩ := DataW.trod_int (k := .i64) (by kernel_rfl) h0
  obtain ⟨b, e1, _⟩ := DataW.trod_int (k := .i64) (by kernel_rfl) h1
  cases e0; cases e1
  exact ⟨(a, b), rfl⟩
theorem rel_hit (ρ : Env) (x : Int × Int) : Rel ρ (hitA x) (.agg #[.int .i64 x.1, .int .i64 x.2]) := ⟨[.int .i64 x.1, .int .i64 x.2], rfl, _, _, rfl, rfl, _, _, rfl, rfl, rfl⟩

theorem mo_calls (W : World) (hl : W.cell? ⟨0, 0, none⟩ = some (.iface 250 (.agg #[.pointer (some ⟨1, 215, none⟩)]))) (x y z : Int × Int) :
    Calls Tryz.prog 6 #[.agg #[.int .i64 x.1, .int .i64 x.2], .agg #[.int .i64 y.1, .int .i64 y.2], .agg #[.int .i64 z.1, .int .i64 z.2]] W fun e W' => e = .returned (.bool true) ∧ Below W.heap.size W W' := by
  have hg : PP.globals.size = 1 := by kernel_rfl
  obtain ⟨ob', -, hr⟩ := real_start (P := PP) (rt := 250) (h := 215) (W := W) (by rw [hg]; exact hl)
  have hget : ∀ b, (AH.start (PP.globals.size + 1) (laidA ob' 250 PP.globals.size 215)).get b ≠ none → b = 0 := by
    intro b hb
    rw [get_start] at hb
    split at hb
    · assumption
    · exact absurd rfl hb
  refine run_calls (args := [hitA x, hitA y, hitA z]) hr ⟨_, _, rfl, rel_hit _ x, _, _, rfl, rel_hit _ y, _, _, rfl, rel_hit _ z, rfl⟩ (by kernel_rfl) (fun b q hx => ?_) (metricOrder_wp x y z ?_ (Nat.succ_pos _) _ fun H' h0 => ⟨rfl, fun b hb => by rw [hget b hb, h0]⟩)
  · obtain rfl := hget b (by rw [hx]; simp)
    rw [get_start, if_pos rfl] at hx
    cases hx; exact ⟨_, _, rfl⟩
  · show isLaid 250 PP.globals.size 215 ((AH.start (PP.globals.size + 1) (laidA ob' 250 PP.globals.size 215)).get 0) = true
    rw [get_start, if_pos rfl]
    kernel_rfl

theorem law_lifted (os : Os) (started : os.Started) (H : Type) (enc : TypeId × Value → H) :
    ReturnsInHanded {} Tryz.checked os 6 .any (fun w args => (Rows.metricOrderSpec.pre enc Tryz.prog Tryz.f6 [] false w args ∧ laidMetH Tryz.prog Rows.metricOrderRow.laid w) ∧ sizedMet enc Tryz.prog Tryz.f6 (OpenSpec.ofChange Rows.metricOrderSpec) false w args)
      (Rows.metricOrderSpec.post enc Tryz.prog Tryz.f6 false true false false) := by
  refine returnsInHanded_of_change_and (C := Tryz.checked) (X := fun w _ => laidMetH Tryz.prog Rows.metricOrderRow.laid w) (fun _ _ _ hh h => h.of_heap hh) Tryz.own started (by kernel_rfl) Tryz.func6
    (ChangeSpec.witness_at (enc := enc) (C := Tryz.checked) (os := os) (X := fun w _ => laidMetH Tryz.prog Rows.metricOrderRow.laid w) false (laidWorld os) #[.agg #[.int .i64 0, .int .i64 0], .agg #[.int .i64 0, .int .i64 0], .agg #[.int .i64 0, .int .i64 0]] 8 rfl (by kernel_rfl) (by kernel_rfl) (by kernel_rfl) (by kernel_rfl) (by kernel_rfl) (laidWorld_met os _)) ?_
  intro W base args ds gs before hval hW _ _ hL _
  obtain ⟨p, q, hA0, -⟩ := id hW
  have hA : DataW.TrodAll enc Tryz.prog W 0 (fun _ => true) true Tryz.f6.params.toList args.toList ds p := hA0
  rw [Tryz.params6] at hA
  obtain ⟨v0, v1, v2, d0, d1, d2, p0, p1, p2, rfl, rfl, rfl, h0, h1, h2⟩ := trodAll_three hA
  obtain ⟨x, rfl⟩ := open_hit (hval 0 37 v0 (by rw [Tryz.params6]; rfl) rfl) h0
  obtain ⟨y, rfl⟩ := open_hit (hval 1 37 v1 (by rw [Tryz.params6]; rfl) rfl) h1
  obtain ⟨z, rfl⟩ := open_hit (hval 2 37 v2 (by rw [Tryz.params6]; rfl) rfl) h2
  refine (mo_calls W (handle_of_laid hL) x y z).mono fun e W' ⟨he, hw⟩ => ?_
  subst he
  exact ⟨_, rfl, post_true (by kernel_rfl) rfl rfl (fun t ht => by
    rw [Tryz.params6] at ht
    simp at ht; subst ht; exact ⟨by kernel_rfl, by rw [Tryz.sizeT]; decide⟩) hW hw⟩

theorem mo_said : Rows.MetricOrderSaid :=
  OpenClaim.holds_of_wide 6 Tryz.f6 rfl rfl rfl rfl rfl rfl rfl ⟨rfl, rfl, rfl, rfl, rfl⟩ rfl rfl rfl rfl rfl (by kernel_rfl) Tryz.func6 (by kernel_rfl)
    (of_decide_eq_true (by kernel_rfl)) (by unfold Func.isWrapper; rw [if_neg (of_decide_eq_false (by kernel_rfl))]; exact ⟨rfl, rfl⟩)
    (fun os started H enc _ => law_lifted os started H enc)

theorem metric_order : Rows.MetricOrderCardSaid :=
  Claim7.holds_tied_plain_at .later [] [.handle] true (true, "9460f19fd34637022cd414d57d89785ee97073cda05863c38b126e1b4ec8e0d8") true
    mo_said (fun _ h => by cases h) (by kernel_rfl) (fun _ h => by cases h) metricOrder_row_tie rfl ⟨rfl, rfl⟩ (by kernel_rfl) rfl
    (fun f fn hf hfn => by
      obtain rfl : f = 6 := Option.some.inj ((show Tryz.prog.funcNamed "fieldfare/fieldfarelaw7.MetricOrder" = some 6 by kernel_rfl).symm.trans hf) |>.symm
      obtain rfl : fn = Tryz.f6 := (Option.some.inj (Tryz.func6.symm.trans hfn)).symm
      exact ⟨by kernel_rfl, fun j t ht => by
        rw [Tryz.params6] at ht
        obtain rfl : t = 37 := by simpa using Array.mem_of_getElem? ht
        kernel_rfl⟩)
    (by kernel_rfl)
#print axioms metric_order
end Go.Proofs.YtoafnnphjbdedaaGreatDoor
