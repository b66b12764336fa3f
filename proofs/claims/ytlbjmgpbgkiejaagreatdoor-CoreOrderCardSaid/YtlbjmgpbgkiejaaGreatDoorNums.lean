/- Slices of numbers: read, made, written, told as text. -/
import Derived.Test.YtlbjmgpbgkiejaaGreatDoorHit
namespace Go.Ab
noncomputable section
open Go.Proofs
set_option maxRecDepth 10000
variable {H H' : AH}

theorem Sl.facts {sz b : Nat} {s : AV} {X : List (List AV)} (h : Sl H sz b s X) : s.one = true ∧ clearA s = some s ∧ s.parts = [s] ∧ s.known = true := by
  obtain ⟨rfl | ⟨_, _, rfl⟩, _⟩ | ⟨o, c, ex, rfl, _, _⟩ := h.ex <;> exact ⟨rfl, rfl, rfl, rfl⟩
theorem Sl.low {sz b : Nat} {s : AV} {X : List (List AV)} (h : Sl H sz b s X) : b < H.next ∨ X = [] := by
  obtain ⟨_, h⟩ | ⟨o, c, ex, _, h, _⟩ := h.ex
  · exact .inr h
  · exact .inl h.lt
theorem ldN_two (e : TypeId) {x y : AV} (hx : x.known = true) (hy : y.known = true) : ldN 2 (some (.cells e [x, y])) 0 = some (.agg [x, y]) := by
  show clearA (.agg [x, y]) = _
  simp [clearA, allB_eq, hx, hy]
theorem modn (a : Int) {m : Int} (hm : 0 < m) : -m < a.tmod m ∧ a.tmod m < m ∧ 0 ≤ (a.tmod m + m).tmod m ∧ (a.tmod m + m).tmod m < m := by
  have h1 := Int.lt_tmod_of_pos a hm
  have h2 := Int.tmod_lt_of_pos a hm
  exact ⟨h1, h2, Int.tmod_nonneg m (by omega), Int.tmod_lt_of_pos _ hm⟩
theorem wrap8_in {x : Int} (h1 : 0 ≤ x) (h2 : x ≤ 255) : IntKind.u8.wrap x = x := by
  refine wrap_of_fits ?_
  cases x with
  | ofNat m => simp only [fits, fitsU, Nat.blt_eq]; simp only [Int.ofNat_eq_natCast] at h2; omega
  | negSucc m => omega

abbrev nums (k : IntKind) (L : List Int) : List (List AV) := L.map fun x => [AV.int k x]
abbrev Is (k : IntKind) (H : AH) (b : Nat) (s : AV) (L : List Int) : Prop := Sl H 1 b s (nums k L)
abbrev Os (e : TypeId) (k : IntKind) (H : AH) (b : Nat) (s : AV) (L : List Int) : Prop := Own H e 1 b s (nums k L)
theorem Is.at {k : IntKind} {b : Nat} {s : AV} {L : List Int} (h : Is k H b s L) {j : Nat} (hj : j < L.length) : ∃ o, (∀ G : AH, w_indexAddr (.sl 1) G s (.int .i64 j) = some (.val (.ptr (some (b, o))) G)) ∧ b < H.next ∧ ldV (H.get b) o = some (.int k L[j]) := by
  obtain ⟨o, h1, h2, h3⟩ := Sl.at h (j := j) (by simpa using hj) .i64
  have e : (nums k L)[j]'(by simpa using hj) = [AV.int k L[j]] := by simp
  rw [e] at h3
  exact ⟨o, h1, h2, ldV_of (h3 0 _ rfl) rfl rfl⟩
theorem Is.len {k : IntKind} {b : Nat} {s : AV} {L : List Int} (h : Is k H b s L) {t e : TypeId} (hu : PP.underlying t = some (.slice e)) (G : AH) : w_len PP t G s = some (.val (.int .i64 L.length) G) := by
  have := Sl.len (P := PP) h hu G
  rwa [List.length_map] at this
/-- The first ones. -/
theorem Is.cut {k : IntKind} {b : Nat} {s : AV} {L : List Int} (h : Is k H b s L) (n : Nat) (hn : n ≤ L.length) : ∃ s', (∀ G : AH, w_slice (.sl 1) true false G s none (some (.int .i64 n)) none = some (.val s' G)) ∧ Is k H b s' (L.take n) := by
  obtain ⟨s', h1, h2⟩ := Sl.cut h (hasHi := true) none (some (.i64, n)) (Nat.zero_le _) (show n ≤ (nums k L).length by simpa using hn)
  refine ⟨s', h1, ?_⟩
  have e : (List.drop (loN 0 none) (nums k L)).take (loN (nums k L).length (some (.i64, n)) - loN 0 none) = nums k (L.take n) := by
    show (List.drop 0 (nums k L)).take (n - 0) = _
    rw [List.drop_zero, Nat.sub_zero, ← List.map_take]
  rw [e] at h2; exact h2
theorem Os.is {e : TypeId} {k : IntKind} {b : Nat} {s : AV} {L : List Int} (h : Os e k H b s L) : Is k H b s L := h.sl
/-- A place of an own slice. -/
theorem Os.at {e : TypeId} {k : IntKind} {B : Nat} {s : AV} {L : List Int} (h : Os e k H B s L) {j : Nat} (hj : j < L.length) : ∃ p, (∀ G : AH, w_indexAddr (.sl 1) G s (.int .i64 j) = some (.val (.ptr (some (B, p))) G)) ∧ B < H.next ∧ ldV (H.get B) p = some (.int k L[j]) ∧
    ∀ x : Int, ∃ H', stN 1 H B (H.get B) p (.int k x) = some (.skip H') ∧ Ext [B] H H' ∧ H'.next = H.next ∧ Os e k H' B s (L.set j x) := by
  have hj' : j < (nums k L).length := by simpa using hj
  obtain ⟨p, a1, a2, a3, a4⟩ := Own.at h hj' .i64
  have q : (nums k L)[j] = [AV.int k L[j]] := by simp
  rw [q] at a3
  refine ⟨p, a1, a2, ldV_of (a3 0 _ rfl) rfl rfl, fun x => ?_⟩
  obtain ⟨H', b1, b2, b3, _, b5⟩ := a4 [.int k x] rfl rfl rfl 1 0 (.int k x) rfl (by simp [AV.parts]) (by omega) (by rw [q]; rfl)
  refine ⟨H', b1, b2, b3, ?_⟩
  show Own _ _ _ _ _ _
  rw [show nums k (L.set j x) = (nums k L).set j [.int k x] from List.map_set]; exact b5
theorem os_nil (e : TypeId) (k : IntKind) (B : Nat) : Os e k H B (.slice none 0 0 true) [] := Own.nil _ _ _ _
/-- One of a number. -/
theorem bs_num {e : TypeId} {k : IntKind} (he : elT PP e = some (1, [.int k 0])) (x : Int) : w_buildSlice PP e 1 H [(0, .int k x)] none = some (.val (.slice (some (H.next, 0)) 1 1 true) (H.new (.cells e [.int k x]))) := by
  have h1 : Nat.ble (1 * 1) 16777216 = true := rfl
  have h2 : fillA (fun i => some (i * 1, 1)) [(0, AV.int k x)] (reps 1 [AV.int k 0]) = some [.int k x] := rfl
  have h3 : allB (fun x : Nat × AV => allB AV.one x.2.parts) [(0, .int k x)] = true := rfl
  simp only [w_buildSlice, oBuildSlice, he, h1, h2, h3, br_true, val_mk, ob_some, newSlice, newTo_none_eq]
theorem bs_num_at {e : TypeId} {k : IntKind} (he : elT PP e = some (1, [.int k 0])) (x : Int) (b : Nat) : w_buildSlice PP e 1 H [(0, .int k x)] (some b) = some (.val (.slice (some (b, 0)) 1 1 true) (H.put b (some (.cells e [.int k x])))) := by
  have h1 : Nat.ble (1 * 1) 16777216 = true := rfl
  have h2 : fillA (fun i => some (i * 1, 1)) [(0, AV.int k x)] (reps 1 [AV.int k 0]) = some [.int k x] := rfl
  have h3 : allB (fun x : Nat × AV => allB AV.one x.2.parts) [(0, .int k x)] = true := rfl
  simp only [w_buildSlice, oBuildSlice, he, h1, h2, h3, br_true, val_mk, ob_some, newSlice, newTo_some_eq]
theorem os_one (e : TypeId) (k : IntKind) (x : Int) : Os e k (H.new (.cells e [.int k x])) H.next (.slice (some (H.next, 0)) 1 1 true) [x] :=
  ⟨.inr ⟨0, 1, true, _, rfl, get_new_same _ _, Nat.le_refl _, Nat.le_refl _, fun q => (by cases q), rfl, by rw [next_new]; omega⟩, by simp, by simp [AV.known], by simp [AV.one]⟩
theorem push_num {e by_ : Nat} {k : IntKind} (he : elT PP e = some (1, [.int k 0])) (hby : by_ ≤ 8) {B : Nat} {s : AV} {L : List Int} (ho : Os e k H B s L) (hL : L.length ≤ 100000) (x : Int) (K : AV → AH → Prop)
    (hK : ∀ H' s' B', Ext [B] H H' → (B' = B ∨ H.next ≤ B') → Os e k H' B' s' (L ++ [x]) → K s' H') :
    outP CC H (w_buildSlice PP e 1 H [(0, .int k x)] none) fun v G => outP CC G (w_append e 1 by_ G s v none) K := by
  refine st (bs_num he x) ?_
  have x1 : Ext [] H (H.new (.cells e [.int k x])) := (Ext.refl _ _).new _
  obtain ⟨s', H', B', e1, e2, e3, e4⟩ := (Own.mono ho x1 (by simp)).append (by_ := by_) (Own.sl (os_one e k x)) (by omega) (by
    simp only [List.length_map, List.length_singleton]
    have : (2 * (L.length + 1) + 1024) * by_ ≤ (2 * (L.length + 1) + 1024) * 8 := Nat.mul_le_mul_left _ hby
    omega)
  refine st e1 (hK _ _ B' ((x1.mono (by simp)).trans e2) ?_ ?_)
  · rw [next_new] at e3; omega
  · show Own _ _ _ _ _ _
    rw [show nums k (L ++ [x]) = nums k L ++ nums k [x] from List.map_append]; exact e4
/-- make. -/
theorem make_nums {e : TypeId} {k : IntKind} {by_ : Nat} (he : elT PP e = some (1, [.int k 0])) (hb : byOf PP e = some by_) (hby : by_ ≤ 8) {n : Nat} (hn : n ≤ 100000) :
    ∃ H', w_makeSlice PP e H (.int .i64 n) (.int .i64 n) none = some (.val (.slice (some (H.next, 0)) n n true) H') ∧ Ext [] H H' ∧ H'.next = H.next + 1 ∧ Os e k H' H.next (.slice (some (H.next, 0)) n n true) (List.replicate n 0) := by
  obtain ⟨H', h1, h2, h3, h4⟩ := own_make (H := H) he hb (by omega) rfl rfl rfl (n := n) (by
    have : by_ * n ≤ 8 * n := Nat.mul_le_mul_right _ hby
    omega) (by omega) .i64 .i64
  refine ⟨H', h1, h2, h3, ?_⟩
  show Own _ _ _ _ _ _
  rw [show nums k (List.replicate n 0) = List.replicate n [AV.int k 0] from List.map_replicate]; exact h4
/-- Places that are filled one behind the other. -/
def fillTo (f : Nat → Int) (n j : Nat) : List Int := (List.range n).map fun i => if i < j then f i else 0
theorem fillTo_zero (f : Nat → Int) (n : Nat) : fillTo f n 0 = List.replicate n 0 := by
  unfold fillTo
  refine List.ext_getElem (by simp) fun i h1 h2 => by simp
theorem fillTo_len (f : Nat → Int) (n j : Nat) : (fillTo f n j).length = n := by simp [fillTo]
theorem fillTo_set (f : Nat → Int) (n j : Nat) : (fillTo f n j).set j (f j) = fillTo f n (j + 1) := by
  unfold fillTo
  refine List.ext_getElem (by simp) fun i h1 h2 => ?_
  rw [List.getElem_set]
  simp only [List.getElem_map, List.getElem_range]
  by_cases c : j = i
  · subst c; simp
  · simp only [c, if_false]
    by_cases d : i < j
    · rw [if_pos d, if_pos (by omega)]
    · rw [if_neg d, if_neg (by omega)]
theorem fillTo_skip (f : Nat → Int) (n j : Nat) (h : f j = 0) : fillTo f n j = fillTo f n (j + 1) := by
  unfold fillTo
  refine List.map_congr_left fun i _ => ?_
  by_cases d : i < j
  · rw [if_pos d, if_pos (by omega)]
  · by_cases c : i = j
    · subst c; simp [h]
    · rw [if_neg d, if_neg (by omega)]
theorem fillTo_all (f : Nat → Int) (n : Nat) : fillTo f n n = (List.range n).map f := by
  unfold fillTo
  refine List.map_congr_left fun i hi => if_pos (List.mem_range.1 hi)

/-! Bytes as text. -/
def txt (L : List Int) : List UInt8 := L.map fun x => UInt8.ofNat x.toNat
theorem bytes_of : ∀ L : List Int, allM byteOfA (nums .u8 L).flatten = some (txt L)
  | [] => rfl
  | x :: L => by
    have ih := bytes_of L
    show ob (byteOfA (.int .u8 x)) (fun y => ob (allM byteOfA (nums .u8 L).flatten) fun ys => some (y :: ys)) = _
    rw [ih]; rfl
theorem conv_text {b : Nat} {s : AV} {L : List Int} (h : Is .u8 H b s L) : w_conv .text H s none = some (.val (.str (txt L)) H) := by
  have h1 := Sl.lenA h
  have h2 := Sl.cells h (by omega) (Nat.le_refl _)
  rw [List.take_of_length_le (Nat.le_refl _)] at h2
  have h3 := bytes_of L
  obtain ⟨rfl | ⟨_, _, rfl⟩, _⟩ | ⟨o, c, ex, rfl, _, _⟩ := h.ex <;> simp only [w_conv, oConv, val_mk, h1, h2, h3, ob_some]
theorem w_str_eq (a b : List UInt8) : w_str .eql H (.str a) (.str b) = some (.val (.bool (decide (a = b))) H) := by
  have h : strEq a b = decide (a = b) := by rw [Bool.eq_iff_iff, strEq_eq, beq_iff_eq, decide_eq_true_iff]
  show vO H (some (.bool (strEq a b))) = _
  rw [h]; rfl
end
end Go.Ab
