/- Blocks: plain. -/
import Derived.Test.YtbahknfffhijlaaGreatDoorSortW
namespace Go.Ab
set_option maxRecDepth 10000
abbrev Up (L : List Int) : Prop := L.Pairwise (· < ·)
theorem up_ext : ∀ {L M : List Int}, Up L → Up M → (∀ x, x ∈ L ↔ x ∈ M) → L = M
  | [], [], _, _, _ => rfl
  | [], y :: M, _, _, h => absurd ((h y).2 (by simp)) (by simp)
  | x :: L, [], _, _, h => absurd ((h x).1 (by simp)) (by simp)
  | x :: L, y :: M, hL, hM, h => by
    have hL' := List.pairwise_cons.1 hL
    have hM' := List.pairwise_cons.1 hM
    have e : x = y := by
      rcases List.mem_cons.1 ((h x).1 (by simp)) with q | q
      · exact q
      · rcases List.mem_cons.1 ((h y).2 (by simp)) with r | r
        · exact r.symm
        · have := hM'.1 _ q
          have := hL'.1 _ r
          omega
    subst e
    congr 1
    refine up_ext hL'.2 hM'.2 fun z => ⟨fun hz => ?_, fun hz => ?_⟩
    · rcases List.mem_cons.1 ((h z).1 (by simp [hz])) with q | q
      · subst q; exact absurd (hL'.1 _ hz) (by omega)
      · exact q
    · rcases List.mem_cons.1 ((h z).2 (by simp [hz])) with q | q
      · subst q; exact absurd (hM'.1 _ hz) (by omega)
      · exact q
theorem up_nodup {L : List Int} (h : Up L) : L.Nodup := h.imp fun q => by omega
theorem mem_sortZ {L : List Int} {x : Int} : x ∈ sortZ L ↔ x ∈ L := (sortZ_perm L).mem_iff
theorem sortZ_up {L : List Int} (h : L.Nodup) : Up (sortZ L) := by
  have h1 : (sortZ L).Nodup := (sortZ_perm L).nodup_iff.2 h
  exact (List.pairwise_and_iff.2 ⟨sortZ_sorted L, h1⟩).imp fun q => by have := q.1; have := q.2; omega
theorem sortZ_id {L : List Int} (h : Up L) : sortZ L = L := up_ext (sortZ_up (up_nodup h)) h fun _ => mem_sortZ
theorem sortZ_le (L : List Int) : (sortZ L).length = L.length := (sortZ_perm L).length_eq
theorem up_take {L : List Int} (h : Up L) (n : Nat) : Up (L.take n) := List.Pairwise.sublist (List.take_sublist _ _) h
theorem up_drop {L : List Int} (h : Up L) (n : Nat) : Up (L.drop n) := List.Pairwise.sublist (List.drop_sublist _ _) h
theorem mem_take_drop {L : List Int} (n : Nat) (x : Int) : x ∈ L ↔ x ∈ L.take n ∨ x ∈ L.drop n := by rw [← List.mem_append, List.take_append_drop]
theorem nd_take_drop {L : List Int} (h : L.Nodup) {n : Nat} {x : Int} (h1 : x ∈ L.take n) : x ∉ L.drop n := fun h2 => by
  rw [← List.take_append_drop n L] at h
  exact (List.nodup_append.1 h).2.2 x h1 x h2 rfl

/-- Who has what. -/
structure PS where
  free : List Int
  of : Int → List Int
def updP (f : Int → List Int) (o : Int) (L : List Int) : Int → List Int := fun x => if x = o then L else f x
def sizeP (s : PS) (o b : Int) : PS × Int :=
  if b < 0 then (s, 2)
  else if (s.free.length : Int) < b - ((s.of o).length : Int) then (s, 6)
  else if ((s.of o).length : Int) < b then
    (⟨sortZ (s.free.drop (b - ((s.of o).length : Int)).toNat), updP s.of o (sortZ (s.of o ++ s.free.take (b - ((s.of o).length : Int)).toNat))⟩, 0)
  else (⟨sortZ (s.free ++ (s.of o).drop b.toNat), updP s.of o (sortZ ((s.of o).take b.toNat))⟩, 0)
/-- Each block is one's, or free. -/
structure PInv (N : Nat) (s : PS) : Prop where
  upF : Up s.free
  upO : ∀ o, Up (s.of o)
  all : ∀ x, 0 ≤ x → x < (N : Int) → x ∈ s.free ∨ ∃ o, x ∈ s.of o
  inF : ∀ x ∈ s.free, 0 ≤ x ∧ x < (N : Int)
  inO : ∀ o, ∀ x ∈ s.of o, 0 ≤ x ∧ x < (N : Int)
  apF : ∀ o, ∀ x ∈ s.of o, x ∉ s.free
  apO : ∀ o o' x, x ∈ s.of o → x ∈ s.of o' → o = o'
def startP (n : Nat) : PS := ⟨(List.range n).map fun i : Nat => (i : Int), fun _ => []⟩
theorem range_up (n : Nat) : Up ((List.range n).map fun i : Nat => (i : Int)) := by
  rw [Up, List.pairwise_map]
  exact List.pairwise_lt_range.imp fun h => by omega
theorem start_inv (n : Nat) : PInv n (startP n) where
  upF := range_up n
  upO := fun _ => List.Pairwise.nil
  all := fun x h1 h2 => .inl (List.mem_map.2 ⟨x.toNat, List.mem_range.2 (by omega), by omega⟩)
  inF := fun x hx => by
    obtain ⟨i, hi, rfl⟩ := List.mem_map.1 hx
    have := List.mem_range.1 hi
    omega
  inO := fun _ _ h => (List.not_mem_nil h).elim
  apF := fun _ _ h => (List.not_mem_nil h).elim
  apO := fun _ _ _ h => (List.not_mem_nil h).elim
theorem updP_same (f : Int → List Int) (o : Int) (L : List Int) : updP f o L o = L := if_pos rfl
theorem updP_other (f : Int → List Int) {o x : Int} (L : List Int) (h : x ≠ o) : updP f o L x = f x := if_neg h
/-- What the new lists hold. -/
theorem size_mem {N : Nat} {s : PS} (h : PInv N s) (o b : Int) : ∃ G T : List Int, (sizeP s o b).1 = ⟨s.free, s.of⟩ ∨
    ((sizeP s o b).1 = ⟨G, updP s.of o T⟩ ∧ Up G ∧ Up T ∧ (∀ x, x ∈ G ∨ x ∈ T ↔ x ∈ s.free ∨ x ∈ s.of o) ∧ (∀ x, x ∈ G → x ∉ T)) := by
  have apart : ∀ x, x ∈ s.of o → x ∉ s.free := h.apF o
  unfold sizeP
  by_cases c1 : b < 0
  · exact ⟨[], [], .inl (by rw [if_pos c1])⟩
  by_cases c2 : (s.free.length : Int) < b - ((s.of o).length : Int)
  · exact ⟨[], [], .inl (by rw [if_neg c1, if_pos c2])⟩
  by_cases c3 : ((s.of o).length : Int) < b
  · rw [if_neg c1, if_neg c2, if_pos c3]
    generalize (b - ((s.of o).length : Int)).toNat = k
    refine ⟨_, _, .inr ⟨rfl, sortZ_up (up_nodup (up_drop h.upF k)), sortZ_up ?_, fun x => ?_, fun x hx hx' => ?_⟩⟩
    · rw [List.nodup_append]
      exact ⟨up_nodup (h.upO o), up_nodup (up_take h.upF k), fun a ha c hc q => apart a ha (q ▸ List.mem_of_mem_take hc)⟩
    · rw [mem_sortZ, mem_sortZ, List.mem_append, mem_take_drop (L := s.free) k x]
      exact ⟨fun q => by rcases q with q | q | q <;> simp [q], fun q => by rcases q with (q | q) | q <;> simp [q]⟩
    · rw [mem_sortZ] at hx hx'
      rcases List.mem_append.1 hx' with q | q
      · exact apart x q (List.mem_of_mem_drop hx)
      · exact nd_take_drop (up_nodup h.upF) q hx
  · rw [if_neg c1, if_neg c2, if_neg c3]
    generalize b.toNat = k
    refine ⟨_, _, .inr ⟨rfl, sortZ_up ?_, sortZ_up (up_nodup (up_take (h.upO o) k)), fun x => ?_, fun x hx hx' => ?_⟩⟩
    · rw [List.nodup_append]
      exact ⟨up_nodup h.upF, up_nodup (up_drop (h.upO o) k), fun a ha c hc q => apart c (List.mem_of_mem_drop hc) (q ▸ ha)⟩
    · rw [mem_sortZ, mem_sortZ, List.mem_append, mem_take_drop (L := s.of o) k x]
      exact ⟨fun q => by rcases q with (q | q) | q <;> simp [q], fun q => by rcases q with q | q | q <;> simp [q]⟩
    · rw [mem_sortZ] at hx hx'
      rcases List.mem_append.1 hx with q | q
      · exact apart x (List.mem_of_mem_take hx') q
      · exact nd_take_drop (up_nodup (h.upO o)) hx' q
theorem size_inv {N : Nat} {s : PS} (h : PInv N s) (o b : Int) : PInv N (sizeP s o b).1 := by
  obtain ⟨G, T, e | ⟨e, uG, uT, hm, ha⟩⟩ := size_mem h o b
  · rw [e]; exact h
  · rw [e]
    have fr : ∀ x, x ∈ G ∨ x ∈ T → 0 ≤ x ∧ x < (N : Int) := fun x q => by
      rcases (hm x).1 q with q | q
      · exact h.inF x q
      · exact h.inO o x q
    refine ⟨uG, fun x => ?_, fun x h1 h2 => ?_, fun x hx => fr x (.inl hx), fun x y hy => ?_, fun x y hy => ?_, fun x x' y hy hy' => ?_⟩
    · by_cases c : x = o
      · subst c; show Up (updP s.of x T x); rw [updP_same]; exact uT
      · show Up (updP s.of o T x); rw [updP_other _ _ c]; exact h.upO x
    · show x ∈ G ∨ ∃ y, x ∈ updP s.of o T y
      have back : x ∈ s.free ∨ x ∈ s.of o → x ∈ G ∨ ∃ y, x ∈ updP s.of o T y := fun q => by
        rcases (hm x).2 q with r | r
        · exact .inl r
        · exact .inr ⟨o, by rw [updP_same]; exact r⟩
      rcases h.all x h1 h2 with q | ⟨y, q⟩
      · exact back (.inl q)
      · by_cases c : y = o
        · subst c; exact back (.inr q)
        · exact .inr ⟨y, by rw [updP_other _ _ c]; exact q⟩
    · by_cases c : x = o
      · subst c
        rw [show (PS.mk G (updP s.of x T)).of x = T from updP_same _ _ _] at hy
        exact fr y (.inr hy)
      · rw [show (PS.mk G (updP s.of o T)).of x = s.of x from updP_other _ _ c] at hy
        exact h.inO x y hy
    · show y ∉ G
      by_cases c : x = o
      · subst c
        rw [show (PS.mk G (updP s.of x T)).of x = T from updP_same _ _ _] at hy
        exact fun q => ha y q hy
      · rw [show (PS.mk G (updP s.of o T)).of x = s.of x from updP_other _ _ c] at hy
        intro q
        rcases (hm y).1 (.inl q) with r | r
        · exact h.apF x y hy r
        · exact c (h.apO _ _ _ hy r)
    · by_cases c : x = o
      · by_cases c' : x' = o
        · rw [c, c']
        · subst c
          rw [show (PS.mk G (updP s.of x T)).of x = T from updP_same _ _ _] at hy
          rw [show (PS.mk G (updP s.of x T)).of x' = s.of x' from updP_other _ _ c'] at hy'
          rcases (hm y).1 (.inr hy) with r | r
          · exact absurd r (h.apF x' y hy')
          · exact h.apO _ _ _ r hy'
      · rw [show (PS.mk G (updP s.of o T)).of x = s.of x from updP_other _ _ c] at hy
        by_cases c' : x' = o
        · subst c'
          rw [show (PS.mk G (updP s.of x' T)).of x' = T from updP_same _ _ _] at hy'
          rcases (hm y).1 (.inr hy') with r | r
          · exact absurd r (h.apF x y hy)
          · exact h.apO _ _ _ hy r
        · rw [show (PS.mk G (updP s.of o T)).of x' = s.of x' from updP_other _ _ c'] at hy'
          exact h.apO _ _ _ hy hy'

/-! The document's way: who has each. -/
def nob : Int := -9223372036854775808
def idxOf (W : List Int) (o : Int) : List Int := ((List.range W.length).filter fun i => decide (W.getD i 0 = o)).map fun i : Nat => (i : Int)
theorem mem_idx {W : List Int} {o x : Int} : x ∈ idxOf W o ↔ 0 ≤ x ∧ x < (W.length : Int) ∧ W.getD x.toNat 0 = o := by
  unfold idxOf
  rw [List.mem_map]
  constructor
  · rintro ⟨i, hi, rfl⟩
    rw [List.mem_filter, List.mem_range, decide_eq_true_iff] at hi
    rw [Int.toNat_natCast]
    exact ⟨by omega, by omega, hi.2⟩
  · rintro ⟨h1, h2, h3⟩
    exact ⟨x.toNat, List.mem_filter.2 ⟨List.mem_range.2 (by omega), decide_eq_true h3⟩, by omega⟩
theorem idx_up (W : List Int) (o : Int) : Up (idxOf W o) := by
  unfold idxOf
  rw [Up, List.pairwise_map]
  exact (List.Pairwise.sublist List.filter_sublist List.pairwise_lt_range).imp fun h => by omega
def setAllW (W : List Int) (L : List Int) (x : Int) : List Int := L.foldl (fun W i => W.set i.toNat x) W
theorem setAllW_len (x : Int) : ∀ (L W : List Int), (setAllW W L x).length = W.length
  | [], _ => rfl
  | i :: L, W => by
    show (setAllW (W.set i.toNat x) L x).length = _
    rw [setAllW_len x L, List.length_set]
theorem setAllW_get (x : Int) : ∀ (L W : List Int), (∀ i ∈ L, 0 ≤ i ∧ i < (W.length : Int)) → ∀ j : Nat, (setAllW W L x).getD j 0 = if (j : Int) ∈ L then x else W.getD j 0
  | [], _, _, _ => by simp [setAllW]
  | i :: L, W, h, j => by
    show (setAllW (W.set i.toNat x) L x).getD j 0 = _
    have hi := h i (by simp)
    rw [setAllW_get x L (W.set i.toNat x) (fun k hk => by rw [List.length_set]; exact h k (by simp [hk])) j]
    by_cases c : (j : Int) ∈ L
    · rw [if_pos c, if_pos (by simp [c])]
    · rw [if_neg c]
      by_cases d : (j : Int) = i
      · rw [if_pos (by simp [d]), List.getD_eq_getElem?_getD, List.getElem?_set, if_pos (by omega), if_pos (by omega)]; rfl
      · rw [if_neg (by simp [c, d]), List.getD_eq_getElem?_getD, List.getElem?_set, if_neg (by omega), List.getD_eq_getElem?_getD]
def rSize (W : List Int) (o b : Int) : List Int × Int :=
  if b < 0 then (W, 2)
  else if ((idxOf W o).length : Int) < b ∧ ((idxOf W nob).length : Int) < b - ((idxOf W o).length : Int) then (W, 6)
  else (setAllW (setAllW W ((idxOf W o).drop b.toNat) nob) ((idxOf (setAllW W ((idxOf W o).drop b.toNat) nob) nob).take (b - ((idxOf W o).length : Int)).toNat) o, 0)
structure PW (W : List Int) (s : PS) : Prop where
  free : s.free = idxOf W nob
  of : ∀ o, o ≠ nob → s.of o = idxOf W o
theorem idx_drop_in {W : List Int} {o : Int} {k : Nat} : ∀ i ∈ (idxOf W o).drop k, 0 ≤ i ∧ i < (W.length : Int) := fun i hi => by
  have := mem_idx.1 (List.mem_of_mem_drop hi)
  exact ⟨this.1, this.2.1⟩
theorem idx_take_in {W : List Int} {o : Int} {k : Nat} : ∀ i ∈ (idxOf W o).take k, 0 ≤ i ∧ i < (W.length : Int) := fun i hi => by
  have := mem_idx.1 (List.mem_of_mem_take hi)
  exact ⟨this.1, this.2.1⟩
/-- Both do the same. -/
theorem size_same {W : List Int} {s : PS} (h : PW W s) {o : Int} (ho : o ≠ nob) (b : Int) : (sizeP s o b).2 = (rSize W o b).2 ∧ PW (rSize W o b).1 (sizeP s o b).1 := by
  unfold sizeP rSize
  rw [h.of o ho, h.free]
  by_cases c1 : b < 0
  · rw [if_pos c1, if_pos c1]; exact ⟨rfl, h⟩
  rw [if_neg c1, if_neg c1]
  by_cases c2 : ((idxOf W nob).length : Int) < b - ((idxOf W o).length : Int)
  · rw [if_pos c2, if_pos ⟨by omega, c2⟩]; exact ⟨rfl, h⟩
  have n2 : ¬ (((idxOf W o).length : Int) < b ∧ ((idxOf W nob).length : Int) < b - ((idxOf W o).length : Int)) := fun q => c2 q.2
  rw [if_neg c2, if_neg n2]
  refine ⟨by split <;> rfl, ?_⟩
  have uF := idx_up W nob
  have uO := idx_up W o
  by_cases c3 : ((idxOf W o).length : Int) < b
  · rw [if_pos c3]
    have e0 : (idxOf W o).drop b.toNat = [] := List.drop_eq_nil_of_le (by omega)
    rw [e0]
    show PW (setAllW W ((idxOf W nob).take (b - ((idxOf W o).length : Int)).toNat) o) _
    generalize (b - ((idxOf W o).length : Int)).toNat = k
    have hg := setAllW_get o ((idxOf W nob).take k) W idx_take_in
    have hl := setAllW_len o ((idxOf W nob).take k) W
    refine ⟨?_, fun x hx => ?_⟩
    · refine up_ext (sortZ_up (up_nodup (up_drop uF k))) (idx_up _ _) fun y => ?_
      rw [mem_sortZ, mem_idx, hl]
      constructor
      · intro q
        have m := mem_idx.1 (List.mem_of_mem_drop q)
        refine ⟨m.1, m.2.1, ?_⟩
        rw [hg, if_neg fun r => nd_take_drop (up_nodup uF) (by rwa [Int.toNat_of_nonneg m.1] at r) q]
        exact m.2.2
      · rintro ⟨m1, m2, m3⟩
        rw [hg, Int.toNat_of_nonneg m1] at m3
        by_cases d : y ∈ (idxOf W nob).take k
        · rw [if_pos d] at m3; exact absurd m3 ho
        · rw [if_neg d] at m3
          exact ((mem_take_drop k y).1 (mem_idx.2 ⟨m1, m2, m3⟩)).resolve_left d
    · by_cases c : x = o
      · subst c
        show updP s.of x _ x = _
        rw [updP_same]
        refine up_ext (sortZ_up ?_) (idx_up _ _) fun y => ?_
        · rw [List.nodup_append]
          exact ⟨up_nodup uO, up_nodup (up_take uF k), fun a ha c hc q => by
            have m1 := (mem_idx.1 ha).2.2
            have m2 := (mem_idx.1 (List.mem_of_mem_take hc)).2.2
            subst q
            exact hx (m1.symm.trans m2)⟩
        · rw [mem_sortZ, List.mem_append, mem_idx (W := setAllW _ _ _), hl]
          constructor
          · intro q
            have m : 0 ≤ y ∧ y < (W.length : Int) := by
              rcases q with q | q
              · exact ⟨(mem_idx.1 q).1, (mem_idx.1 q).2.1⟩
              · exact idx_take_in _ q
            refine ⟨m.1, m.2, ?_⟩
            rw [hg, Int.toNat_of_nonneg m.1]
            by_cases d : y ∈ (idxOf W nob).take k
            · rw [if_pos d]
            · rw [if_neg d]
              exact (mem_idx.1 (q.resolve_right d)).2.2
          · rintro ⟨m1, m2, m3⟩
            rw [hg, Int.toNat_of_nonneg m1] at m3
            by_cases d : y ∈ (idxOf W nob).take k
            · exact .inr d
            · rw [if_neg d] at m3
              exact .inl (mem_idx.2 ⟨m1, m2, m3⟩)
      · show updP s.of o _ x = _
        rw [updP_other _ _ c, h.of x hx]
        refine up_ext (idx_up _ _) (idx_up _ _) fun y => ?_
        rw [mem_idx, mem_idx, hl]
        refine and_congr_right fun m1 => and_congr_right fun m2 => ?_
        rw [hg, Int.toNat_of_nonneg m1]
        by_cases d : y ∈ (idxOf W nob).take k
        · rw [if_pos d]
          have m3 := (mem_idx.1 (List.mem_of_mem_take d)).2.2
          rw [m3]
          exact ⟨fun q => absurd q.symm hx, fun q => absurd q.symm c⟩
        · rw [if_neg d]
  · rw [if_neg c3]
    have e0 : (b - ((idxOf W o).length : Int)).toNat = 0 := by omega
    rw [e0, List.take_zero]
    show PW (setAllW W ((idxOf W o).drop b.toNat) nob) _
    generalize b.toNat = k
    have hg := setAllW_get nob ((idxOf W o).drop k) W idx_drop_in
    have hl := setAllW_len nob ((idxOf W o).drop k) W
    refine ⟨?_, fun x hx => ?_⟩
    · refine up_ext (sortZ_up ?_) (idx_up _ _) fun y => ?_
      · rw [List.nodup_append]
        exact ⟨up_nodup uF, up_nodup (up_drop uO k), fun a ha c hc q => by
          have m1 := (mem_idx.1 ha).2.2
          have m2 := (mem_idx.1 (List.mem_of_mem_drop hc)).2.2
          subst q
          exact ho (m2.symm.trans m1)⟩
      · rw [mem_sortZ, List.mem_append, mem_idx (W := setAllW _ _ _), hl]
        constructor
        · intro q
          have m : 0 ≤ y ∧ y < (W.length : Int) := by
            rcases q with q | q
            · exact ⟨(mem_idx.1 q).1, (mem_idx.1 q).2.1⟩
            · exact idx_drop_in _ q
          refine ⟨m.1, m.2, ?_⟩
          rw [hg, Int.toNat_of_nonneg m.1]
          by_cases d : y ∈ (idxOf W o).drop k
          · rw [if_pos d]
          · rw [if_neg d]
            exact (mem_idx.1 (q.resolve_right d)).2.2
        · rintro ⟨m1, m2, m3⟩
          rw [hg, Int.toNat_of_nonneg m1] at m3
          by_cases d : y ∈ (idxOf W o).drop k
          · exact .inr d
          · rw [if_neg d] at m3
            exact .inl (mem_idx.2 ⟨m1, m2, m3⟩)
    · by_cases c : x = o
      · subst c
        show updP s.of x _ x = _
        rw [updP_same]
        refine up_ext (sortZ_up (up_nodup (up_take uO k))) (idx_up _ _) fun y => ?_
        rw [mem_sortZ, mem_idx (W := setAllW _ _ _), hl]
        constructor
        · intro q
          have m := mem_idx.1 (List.mem_of_mem_take q)
          refine ⟨m.1, m.2.1, ?_⟩
          rw [hg, Int.toNat_of_nonneg m.1, if_neg fun r => nd_take_drop (up_nodup uO) q r]
          exact m.2.2
        · rintro ⟨m1, m2, m3⟩
          rw [hg, Int.toNat_of_nonneg m1] at m3
          by_cases d : y ∈ (idxOf W x).drop k
          · rw [if_pos d] at m3; exact absurd m3.symm hx
          · rw [if_neg d] at m3
            exact ((mem_take_drop k y).1 (mem_idx.2 ⟨m1, m2, m3⟩)).resolve_right d
      · show updP s.of o _ x = _
        rw [updP_other _ _ c, h.of x hx]
        refine up_ext (idx_up _ _) (idx_up _ _) fun y => ?_
        rw [mem_idx, mem_idx, hl]
        refine and_congr_right fun m1 => and_congr_right fun m2 => ?_
        rw [hg, Int.toNat_of_nonneg m1]
        by_cases d : y ∈ (idxOf W o).drop k
        · rw [if_pos d]
          have m3 := (mem_idx.1 (List.mem_of_mem_drop d)).2.2
          rw [m3]
          exact ⟨fun q => absurd q.symm c, fun q => absurd q.symm hx⟩
        · rw [if_neg d]
theorem idx_start {n : Nat} {o : Int} : idxOf (List.replicate n nob) o = if o = nob then (List.range n).map (fun i : Nat => (i : Int)) else [] := by
  refine up_ext (idx_up _ _) (by split; exact range_up n; exact List.Pairwise.nil) fun y => ?_
  rw [mem_idx, List.length_replicate]
  have e : ∀ j, j < n → (List.replicate n nob).getD j 0 = nob := fun j hj => by rw [List.getD_eq_getElem?_getD, List.getElem?_replicate, if_pos hj]; rfl
  by_cases c : o = nob
  · rw [if_pos c, List.mem_map]
    exact ⟨fun q => ⟨y.toNat, List.mem_range.2 (by omega), by omega⟩, fun ⟨i, hi, q⟩ => by
      have := List.mem_range.1 hi
      subst q
      exact ⟨by omega, by omega, by rw [Int.toNat_natCast, e _ this]; exact c.symm⟩⟩
  · rw [if_neg c]
    exact ⟨fun q => absurd ((e _ (by omega)).symm.trans q.2.2) (Ne.symm c), fun q => (List.not_mem_nil q).elim⟩
theorem start_same (n : Nat) : PW (List.replicate n nob) (startP n) :=
  ⟨by rw [idx_start, if_pos rfl]; rfl, fun o ho => by rw [idx_start, if_neg ho]; rfl⟩
end Go.Ab
