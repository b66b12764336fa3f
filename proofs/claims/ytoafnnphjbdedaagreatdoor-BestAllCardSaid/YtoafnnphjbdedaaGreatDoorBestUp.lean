/- Slices of hits that a function makes: one more is put behind; one is put in a place; slices of numbers. -/
import Derived.Test.YtoafnnphjbdedaaGreatDoorHits
import Derived.Test.YtoafnnphjbdedaaGreatDoorBestLaw
namespace Go.Ab
noncomputable section
open Go.Proofs
set_option maxRecDepth 10000
variable {H H' : AH}

theorem hit_build (a b : Int) : w_build PP 37 H [(0, .int .i64 a), (1, .int .i64 b)] = some (.val (.agg [.int .i64 a, .int .i64 b]) H) := by kernel_rfl
theorem bs_new (x : Int × Int) : w_buildSlice PP 37 1 H [(0, .agg [.int .i64 x.1, .int .i64 x.2])] none = some (.val (.slice (some (H.next, 0)) 1 1 true) (H.new (.cells 37 [.int .i64 x.1, .int .i64 x.2]))) := by
  have h1 : Nat.ble (1 * 2) 16777216 = true := rfl
  have h2 : fillA (fun i => some (i * 2, 2)) [(0, AV.agg [.int .i64 x.1, .int .i64 x.2])] (reps 1 [AV.int IntKind.i64 0, AV.int IntKind.i64 0]) = some [.int .i64 x.1, .int .i64 x.2] := rfl
  have h3 : allB (fun x : Nat × AV => allB AV.one x.2.parts) [(0, .agg [.int .i64 x.1, .int .i64 x.2])] = true := rfl
  simp only [w_buildSlice, oBuildSlice, hit_el, h1, h2, h3, br_true, val_mk, ob_some, newSlice, newTo_none_eq]
theorem own_one (x : Int × Int) : Own (H.new (.cells 37 [.int .i64 x.1, .int .i64 x.2])) 37 2 H.next (.slice (some (H.next, 0)) 1 1 true) ([x].map hitL) :=
  ⟨.inr ⟨0, 1, true, _, rfl, get_new_same _ _, Nat.le_refl _, Nat.le_refl _, fun q => (by cases q), rfl, by rw [next_new]; omega⟩, by simp [hitL], by simp [hitL, AV.known], by simp [hitL, AV.one]⟩
theorem Sl.low {sz b : Nat} {s : AV} {X : List (List AV)} (h : Sl H sz b s X) : b < H.next ∨ X = [] := by
  obtain ⟨_, h⟩ | ⟨o, c, ex, _, h, _⟩ := h.ex
  · exact .inr h
  · exact .inl h.lt
theorem Hs.at1 {b : Nat} {s : AV} {L : List (Int × Int)} (h : Hs H b s L) {j : Nat} (hj : j < L.length) : ∃ o, (∀ G : AH, w_indexAddr (.sl 2) G s (.int .i64 j) = some (.val (.ptr (some (b, o))) G)) ∧ b < H.next ∧ ldV (H.get b) o = some (.int .i64 L[j].1) ∧ ldV (H.get b) (o + 1) = some (.int .i64 L[j].2) := by
  obtain ⟨o, h1, h2, h3⟩ := Sl.at h (j := j) (by simpa using hj) .i64
  have e : (L.map hitL)[j]'(by simpa using hj) = hitL L[j] := by simp
  rw [e] at h3
  exact ⟨o, h1, h2, ldV_of (h3 0 _ rfl) rfl rfl, ldV_of (h3 1 _ rfl) rfl rfl⟩
/-- One more. -/
theorem push_hit {B : Nat} {s : AV} {L : List (Int × Int)} (ho : Own H 37 2 B s (L.map hitL)) (hL : L.length ≤ 1000) (x : Int × Int) (K : AV → AH → Prop)
    (hK : ∀ H' s' B', Ext [B] H H' → (B' = B ∨ H.next ≤ B') → Own H' 37 2 B' s' ((L ++ [x]).map hitL) → K s' H') :
    outP CC H (w_buildSlice PP 37 1 H [(0, .agg [.int .i64 x.1, .int .i64 x.2])] none) fun v G => outP CC G (w_append 37 2 16 G s v none) K := by
  refine st (bs_new x) ?_
  have x1 : Ext [] H (H.new (.cells 37 [.int .i64 x.1, .int .i64 x.2])) := (Ext.refl _ _).new _
  obtain ⟨s', H', B', e1, e2, e3, e4⟩ := (ho.mono x1 (by simp)).append (by_ := 16) (own_one x).sl (by omega) (by simp only [List.length_map, List.length_singleton]; omega)
  refine st e1 (hK _ _ B' ((x1.mono (by simp)).trans e2) ?_ ?_)
  · rw [next_new] at e3; omega
  · rw [List.map_append]; exact e4
/-- All of another one. -/
theorem push_hits {B b : Nat} {s y : AV} {L M : List (Int × Int)} (ho : Own H 37 2 B s (L.map hitL)) (hy : Hs H b y M) (hL : L.length + M.length ≤ 1000) (K : AV → AH → Prop)
    (hK : ∀ H' s' B', Ext [B] H H' → (B' = B ∨ H.next ≤ B') → Own H' 37 2 B' s' ((L ++ M).map hitL) → K s' H') : outP CC H (w_append 37 2 16 H s y none) K := by
  obtain ⟨s', H', B', e1, e2, e3, e4⟩ := ho.append (by_ := 16) hy (by omega) (by simp only [List.length_map]; omega)
  exact st e1 (hK _ _ B' e2 e3 (by rw [List.map_append]; exact e4))
/-- A place of an own slice. -/
theorem Own.hit {B : Nat} {s : AV} {X : List (Int × Int)} (h : Own H 37 2 B s (X.map hitL)) {j : Nat} (hj : j < X.length) : ∃ p, (∀ G : AH, w_indexAddr (.sl 2) G s (.int .i64 j) = some (.val (.ptr (some (B, p))) G)) ∧ B < H.next ∧ ldN 2 (H.get B) p = some (.agg [.int .i64 X[j].1, .int .i64 X[j].2]) ∧
    ∀ x : Int × Int, ∃ H', stN 2 H B (H.get B) p (.agg [.int .i64 x.1, .int .i64 x.2]) = some (.skip H') ∧ Ext [B] H H' ∧ H'.next = H.next ∧ Own H' 37 2 B s ((X.set j x).map hitL) := by
  have hj' : j < (X.map hitL).length := by simpa using hj
  obtain ⟨p, a1, a2, a3, a4⟩ := h.at hj' .i64
  have e : (X.map hitL)[j] = hitL X[j] := by simp
  rw [e] at a3
  refine ⟨p, a1, a2, ldN_of (l := hitL X[j]) (by simp [hitL]) rfl a3 rfl, fun x => ?_⟩
  obtain ⟨H', b1, b2, b3, _, b5⟩ := a4 (hitL x) rfl rfl rfl 2 0 (.agg [.int .i64 x.1, .int .i64 x.2]) rfl (by simp [AV.parts]) (by omega) (by rw [e]; rfl)
  refine ⟨H', b1, b2, b3, ?_⟩
  rw [List.map_set]; exact b5

/-! Numbers. -/
theorem i64_sl : PP.underlying 42 = some (.slice 2) := by kernel_rfl
abbrev Is (k : IntKind) (H : AH) (b : Nat) (s : AV) (L : List Int) : Prop := Sl H 1 b s (L.map fun x => [AV.int k x])
theorem Is.at {k : IntKind} {b : Nat} {s : AV} {L : List Int} (h : Is k H b s L) {j : Nat} (hj : j < L.length) : ∃ o, (∀ G : AH, w_indexAddr (.sl 1) G s (.int .i64 j) = some (.val (.ptr (some (b, o))) G)) ∧ b < H.next ∧ ldV (H.get b) o = some (.int k L[j]) := by
  obtain ⟨o, h1, h2, h3⟩ := Sl.at h (j := j) (by simpa using hj) .i64
  have e : (L.map fun x => [AV.int k x])[j]'(by simpa using hj) = [AV.int k L[j]] := by simp
  rw [e] at h3
  have := h3 0 _ rfl
  exact ⟨o, h1, h2, ldV_of this rfl rfl⟩
theorem Is.len {k : IntKind} {b : Nat} {s : AV} {L : List Int} (h : Is k H b s L) {t e : TypeId} (hu : PP.underlying t = some (.slice e)) (G : AH) : w_len PP t G s = some (.val (.int .i64 L.length) G) := by
  have := Sl.len (P := PP) h hu G
  rwa [List.length_map] at this
theorem modn (a : Int) {m : Int} (hm : 0 < m) : -m < a.tmod m ∧ a.tmod m < m ∧ 0 ≤ (a.tmod m + m).tmod m ∧ (a.tmod m + m).tmod m < m := by
  have h1 := Int.lt_tmod_of_pos a hm
  have h2 := Int.tmod_lt_of_pos a hm
  exact ⟨h1, h2, Int.tmod_nonneg m (by omega), Int.tmod_lt_of_pos _ hm⟩
/-- Hits of numbers: the place (and something) is the Id. -/
def hitsOf (off m : Int) (L : List Int) (j : Nat) : List (Int × Int) := (List.range j).map fun (i : Nat) => (off + (i : Int), (L.getD i 0).tmod m)
theorem hitsOf_succ (off m : Int) (L : List Int) (j : Nat) : hitsOf off m L (j + 1) = hitsOf off m L j ++ [(off + (j : Int), (L.getD j 0).tmod m)] := by
  unfold hitsOf; rw [List.range_succ, List.map_append]; rfl
theorem hitsOf_len (off m : Int) (L : List Int) (j : Nat) : (hitsOf off m L j).length = j := by simp [hitsOf]
theorem hitsOf_uni (off m : Int) (L : List Int) (j : Nat) : Uni (hitsOf off m L j) := by
  show (((List.range j).map fun (i : Nat) => (off + (i : Int), (L.getD i 0).tmod m)).map fun x => x.1).Nodup
  rw [List.map_map]
  refine List.pairwise_map.2 (List.nodup_range.imp fun {a b} h q => h ?_)
  simp only [Function.comp_apply] at q
  omega
end
end Go.Ab
