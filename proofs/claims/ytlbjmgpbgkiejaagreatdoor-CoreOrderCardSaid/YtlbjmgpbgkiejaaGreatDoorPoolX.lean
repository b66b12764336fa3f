/- Blocks: plain. -/
import Derived.Test.YtlbjmgpbgkiejaaGreatDoorSortW
import Derived.Test.YtlbjmgpbgkiejaaGreatDoorStoLaw
import Derived.Test.YtlbjmgpbgkiejaaGreatDoorConcat
import Derived.Test.YtlbjmgpbgkiejaaGreatDoorMB
namespace Go.Ab
set_option maxRecDepth 10000
abbrev Up (L : List Int) : Prop := L.Pairwise (· < ·)
theorem up_ext : ∀ {L M : List Int}, Up L → Up M → (∀ x, x ∈ L ↔ x ∈ M) → L = M
  | [], [], _, _, _ => rfl
  | [], y :: M, _, _, h => absurd ((h y).2 (by simp)) (by simp)
  | x :: L, [], _, _, h => absurd ((h x).1 (by simp)) (by simp)
  | x :: L, y :: M, hL, hM, h => by
    have hL' := List.pairwise_cons.1 hL
    have hM' := List.pairwise_cons.1 hM
    have e : x = y := by
      rcases List.mem_cons.1 ((h x).1 (by simp)) with q | q
      · exact q
      · rcases List.mem_cons.1 ((h y).2 (by simp)) with r | r
        · exact r.symm
        · have := hM'.1 _ q
          have := hL'.1 _ r
          omega
    subst e
    congr 1
    refine up_ext hL'.2 hM'.2 fun z => ⟨fun hz => ?_, fun hz => ?_⟩
    · rcases List.mem_cons.1 ((h z).1 (by simp [hz])) with q | q
      · subst q; exact absurd (hL'.1 _ hz) (by omega)
      · exact q
    · rcases List.mem_cons.1 ((h z).2 (by simp [hz])) with q | q
      · subst q; exact absurd (hM'.1 _ hz) (by omega)
      · exact q
theorem up_nodup {L : List Int} (h : Up L) : L.Nodup := h.imp fun q => by omega
theorem mem_sortZ {L : List Int} {x : Int} : x ∈ sortZ L ↔ x ∈ L := (sortZ_perm L).mem_iff
theorem sortZ_up {L : List Int} (h : L.Nodup) : Up (sortZ L) := by
  have h1 : (sortZ L).Nodup := (sortZ_perm L).nodup_iff.2 h
  exact (List.pairwise_and_iff.2 ⟨sortZ_sorted L, h1⟩).imp fun q => by have := q.1; have := q.2; omega
theorem sortZ_id {L : List Int} (h : Up L) : sortZ L = L := up_ext (sortZ_up (up_nodup h)) h fun _ => mem_sortZ
theorem sortZ_le (L : List Int) : (sortZ L).length = L.length := (sortZ_perm L).length_eq
theorem up_take {L : List Int} (h : Up L) (n : Nat) : Up (L.take n) := List.Pairwise.sublist (List.take_sublist _ _) h
theorem up_drop {L : List Int} (h : Up L) (n : Nat) : Up (L.drop n) := List.Pairwise.sublist (List.drop_sublist _ _) h
theorem mem_take_drop {L : List Int} (n : Nat) (x : Int) : x ∈ L ↔ x ∈ L.take n ∨ x ∈ L.drop n := by rw [← List.mem_append, List.take_append_drop]
theorem nd_take_drop {L : List Int} (h : L.Nodup) {n : Nat} {x : Int} (h1 : x ∈ L.take n) : x ∉ L.drop n := fun h2 => by
  rw [← List.take_append_drop n L] at h
  exact (List.nodup_append.1 h).2.2 x h1 x h2 rfl

/-- Who has what. -/
structure PS where
  free : List Int
  of : Int → List Int
def updP (f : Int → List Int) (o : Int) (L : List Int) : Int → List Int := fun x => if x = o then L else f x
def sizeP (s : PS) (o b : Int) : PS × Int :=
  if b < 0 then (s, 2)
  else if (s.free.length : Int) < b - ((s.of o).length : Int) then (s, 6)
  else if ((s.of o).length : Int) < b then
    (⟨sortZ (s.free.drop (b - ((s.of o).length : Int)).toNat), updP s.of o (sortZ (s.of o ++ s.free.take (b - ((s.of o).length : Int)).toNat))⟩, 0)
  else (⟨sortZ (s.free ++ (s.of o).drop b.toNat), updP s.of o (sortZ ((s.of o).take b.toNat))⟩, 0)
/-- Each block is one's, or free. -/
structure PInv (N : Nat) (s : PS) : Prop where
  upF : Up s.free
  upO : ∀ o, Up (s.of o)
  all : ∀ x, 0 ≤ x → x < (N : Int) → x ∈ s.free ∨ ∃ o, x ∈ s.of o
  inF : ∀ x ∈ s.free, 0 ≤ x ∧ x < (N : Int)
  inO : ∀ o, ∀ x ∈ s.of o, 0 ≤ x ∧ x < (N : Int)
  apF : ∀ o, ∀ x ∈ s.of o, x ∉ s.free
  apO : ∀ o o' x, x ∈ s.of o → x ∈ s.of o' → o = o'
def startP (n : Nat) : PS := ⟨(List.range n).map fun i : Nat => (i : Int), fun _ => []⟩
theorem range_up (n : Nat) : Up ((List.range n).map fun i : Nat => (i : Int)) := by
  rw [Up, List.pairwise_map]
  exact List.pairwise_lt_range.imp fun h => by omega
theorem start_inv (n : Nat) : PInv n (startP n) where
  upF := range_up n
  upO := fun _ => List.Pairwise.nil
  all := fun x h1 h2 => .inl (List.mem_map.2 ⟨x.toNat, List.mem_range.2 (by omega), by omega⟩)
  inF := fun x hx => by
    obtain ⟨i, hi, rfl⟩ := List.mem_map.1 hx
    have := List.mem_range.1 hi
    omega
  inO := fun _ _ h => (List.not_mem_nil h).elim
  apF := fun _ _ h => (List.not_mem_nil h).elim
  apO := fun _ _ _ h => (List.not_mem_nil h).elim
theorem updP_same (f : Int → List Int) (o : Int) (L : List Int) : updP f o L o = L := if_pos rfl
theorem updP_other (f : Int → List Int) {o x : Int} (L : List Int) (h : x ≠ o) : updP f o L x = f x := if_neg h
/-- What the new lists hold. -/
theorem size_mem {N : Nat} {s : PS} (h : PInv N s) (o b : Int) : ∃ G T : List Int, (sizeP s o b).1 = ⟨s.free, s.of⟩ ∨
    ((sizeP s o b).1 = ⟨G, updP s.of o T⟩ ∧ Up G ∧ Up T ∧ (∀ x, x ∈ G ∨ x ∈ T ↔ x ∈ s.free ∨ x ∈ s.of o) ∧ (∀ x, x ∈ G → x ∉ T)) := by
  have apart : ∀ x, x ∈ s.of o → x ∉ s.free := h.apF o
  unfold sizeP
  by_cases c1 : b < 0
  · exact ⟨[], [], .inl (by rw [if_pos c1])⟩
  by_cases c2 : (s.free.length : Int) < b - ((s.of o).length : Int)
  · exact ⟨[], [], .inl (by rw [if_neg c1, if_pos c2])⟩
  by_cases c3 : ((s.of o).length : Int) < b
  · rw [if_neg c1, if_neg c2, if_pos c3]
    generalize (b - ((s.of o).length : Int)).toNat = k
    refine ⟨_, _, .inr ⟨rfl, sortZ_up (up_nodup (up_drop h.upF k)), sortZ_up ?_, fun x => ?_, fun x hx hx' => ?_⟩⟩
    · rw [List.nodup_append]
      exact ⟨up_nodup (h.upO o), up_nodup (up_take h.upF k), fun a ha c hc q => apart a ha (q ▸ List.mem_of_mem_take hc)⟩
    · rw [mem_sortZ, mem_sortZ, List.mem_append, mem_take_drop (L := s.free) k x]
      exact ⟨fun q => by rcases q with q | q | q <;> simp [q], fun q => by rcases q with (q | q) | q <;> simp [q]⟩
    · rw [mem_sortZ] at hx hx'
      rcases List.mem_append.1 hx' with q | q
      · exact apart x q (List.mem_of_mem_drop hx)
      · exact nd_take_drop (up_nodup h.upF) q hx
  · rw [if_neg c1, if_neg c2, if_neg c3]
    generalize b.toNat = k
    refine ⟨_, _, .inr ⟨rfl, sortZ_up ?_, sortZ_up (up_nodup (up_take (h.upO o) k)), fun x => ?_, fun x hx hx' => ?_⟩⟩
    · rw [List.nodup_append]
      exact ⟨up_nodup h.upF, up_nodup (up_drop (h.upO o) k), fun a ha c hc q => apart c (List.mem_of_mem_drop hc) (q ▸ ha)⟩
    · rw [mem_sortZ, mem_sortZ, List.mem_append, mem_take_drop (L := s.of o) k x]
      exact ⟨fun q => by rcases q with (q | q) | q <;> simp [q], fun q => by rcases q with q | q | q <;> simp [q]⟩
    · rw [mem_sortZ] at hx hx'
      rcases List.mem_append.1 hx with q | q
      · exact apart x (List.mem_of_mem_take hx') q
      · exact nd_take_drop (up_nodup (h.upO o)) hx' q
theorem size_inv {N : Nat} {s : PS} (h : PInv N s) (o b : Int) : PInv N (sizeP s o b).1 := by
  obtain ⟨G, T, e | ⟨e, uG, uT, hm, ha⟩⟩ := size_mem h o b
  · rw [e]; exact h
  · rw [e]
    have fr : ∀ x, x ∈ G ∨ x ∈ T → 0 ≤ x ∧ x < (N : Int) := fun x q => by
      rcases (hm x).1 q with q | q
      · exact h.inF x q
      · exact h.inO o x q
    refine ⟨uG, fun x => ?_, fun x h1 h2 => ?_, fun x hx => fr x (.inl hx), fun x y hy => ?_, fun x y hy => ?_, fun x x' y hy hy' => ?_⟩
    · by_cases c : x = o
      · subst c; show Up (updP s.of x T x); rw [updP_same]; exact uT
      · show Up (updP s.of o T x); rw [updP_other _ _ c]; exact h.upO x
    · show x ∈ G ∨ ∃ y, x ∈ updP s.of o T y
      have back : x ∈ s.free ∨ x ∈ s.of o → x ∈ G ∨ ∃ y, x ∈ updP s.of o T y := fun q => by
        rcases (hm x).2 q with r | r
        · exact .inl r
        · exact .inr ⟨o, by rw [updP_same]; exact r⟩
      rcases h.all x h1 h2 with q | ⟨y, q⟩
      · exact back (.inl q)
      · by_cases c : y = o
        · subst c; exact back (.inr q)
        · exact .inr ⟨y, by rw [updP_other _ _ c]; exact q⟩
    · by_cases c : x = o
      · subst c
        rw [show (PS.mk G (updP s.of x T)).of x = T from updP_same _ _ _] at hy
        exact fr y (.inr hy)
      · rw [show (PS.mk G (updP s.of o T)).of x = s.of x from updP_other _ _ c] at hy
        exact h.inO x y hy
    · show y ∉ G
      by_cases c : x = o
      · subst c
        rw [show (PS.mk G (updP s.of x T)).of x = T from updP_same _ _ _] at hy
        exact fun q => ha y q hy
      · rw [show (PS.mk G (updP s.of o T)).of x = s.of x from updP_other _ _ c] at hy
        intro q
        rcases (hm y).1 (.inl q) with r | r
        · exact h.apF x y hy r
        · exact c (h.apO _ _ _ hy r)
    · by_cases c : x = o
      · by_cases c' : x' = o
        · rw [c, c']
        · subst c
          rw [show (PS.mk G (updP s.of x T)).of x = T from updP_same _ _ _] at hy
          rw [show (PS.mk G (updP s.of x T)).of x' = s.of x' from updP_other _ _ c'] at hy'
          rcases (hm y).1 (.inr hy) with r | r
          · exact absurd r (h.apF x' y hy')
          · exact h.apO _ _ _ r hy'
      · rw [show (PS.mk G (updP s.of o T)).of x = s.of x from updP_other _ _ c] at hy
        by_cases c' : x' = o
        · subst c'
          rw [show (PS.mk G (updP s.of x' T)).of x' = T from updP_same _ _ _] at hy'
          rcases (hm y).1 (.inr hy') with r | r
          · exact absurd r (h.apF x y hy)
          · exact h.apO _ _ _ hy r
        · rw [show (PS.mk G (updP s.of o T)).of x' = s.of x' from updP_other _ _ c'] at hy'
          exact h.apO _ _ _ hy hy'

/-! The document's way: who has each. -/
def nob : Int := -9223372036854775808
def idxOf (W : List Int) (o : Int) : List Int := ((List.range W.length).filter fun i => decide (W.getD i 0 = o)).map fun i : Nat => (i : Int)
theorem mem_idx {W : List Int} {o x : Int} : x ∈ idxOf W o ↔ 0 ≤ x ∧ x < (W.length : Int) ∧ W.getD x.toNat 0 = o := by
  unfold idxOf
  rw [List.mem_map]
  constructor
  · rintro ⟨i, hi, rfl⟩
    rw [List.mem_filter, List.mem_range, decide_eq_true_iff] at hi
    rw [Int.toNat_natCast]
    exact ⟨by omega, by omega, hi.2⟩
  · rintro ⟨h1, h2, h3⟩
    exact ⟨x.toNat, List.mem_filter.2 ⟨List.mem_range.2 (by omega), decide_eq_true h3⟩, by omega⟩
theorem idx_up (W : List Int) (o : Int) : Up (idxOf W o) := by
  unfold idxOf
  rw [Up, List.pairwise_map]
  exact (List.Pairwise.sublist List.filter_sublist List.pairwise_lt_range).imp fun h => by omega
def setAllW (W : List Int) (L : List Int) (x : Int) : List Int := L.foldl (fun W i => W.set i.toNat x) W
theorem setAllW_len (x : Int) : ∀ (L W : List Int), (setAllW W L x).length = W.length
  | [], _ => rfl
  | i :: L, W => by
    show (setAllW (W.set i.toNat x) L x).length = _
    rw [setAllW_len x L, List.length_set]
theorem setAllW_get (x : Int) : ∀ (L W : List Int), (∀ i ∈ L, 0 ≤ i ∧ i < (W.length : Int)) → ∀ j : Nat, (setAllW W L x).getD j 0 = if (j : Int) ∈ L then x else W.getD j 0
  | [], _, _, _ => by simp [setAllW]
  | i :: L, W, h, j => by
    show (setAllW (W.set i.toNat x) L x).getD j 0 = _
    have hi := h i (by simp)
    rw [setAllW_get x L (W.set i.toNat x) (fun k hk => by rw [List.length_set]; exact h k (by simp [hk])) j]
    by_cases c : (j : Int) ∈ L
    · rw [if_pos c, if_pos (by simp [c])]
    · rw [if_neg c]
      by_cases d : (j : Int) = i
      · rw [if_pos (by simp [d]), List.getD_eq_getElem?_getD, List.getElem?_set, if_pos (by omega), if_pos (by omega)]; rfl
      · rw [if_neg (by simp [c, d]), List.getD_eq_getElem?_getD, List.getElem?_set, if_neg (by omega), List.getD_eq_getElem?_getD]
def rSize (W : List Int) (o b : Int) : List Int × Int :=
  if b < 0 then (W, 2)
  else if ((idxOf W o).length : Int) < b ∧ ((idxOf W nob).length : Int) < b - ((idxOf W o).length : Int) then (W, 6)
  else (setAllW (setAllW W ((idxOf W o).drop b.toNat) nob) ((idxOf (setAllW W ((idxOf W o).drop b.toNat) nob) nob).take (b - ((idxOf W o).length : Int)).toNat) o, 0)
structure PW (W : List Int) (s : PS) : Prop where
  free : s.free = idxOf W nob
  of : ∀ o, o ≠ nob → s.of o = idxOf W o
theorem idx_drop_in {W : List Int} {o : Int} {k : Nat} : ∀ i ∈ (idxOf W o).drop k, 0 ≤ i ∧ i < (W.length : Int) := fun i hi => by
  have := mem_idx.1 (List.mem_of_mem_drop hi)
  exact ⟨this.1, this.2.1⟩
theorem idx_take_in {W : List Int} {o : Int} {k : Nat} : ∀ i ∈ (idxOf W o).take k, 0 ≤ i ∧ i < (W.length : Int) := fun i hi => by
  have := mem_idx.1 (List.mem_of_mem_take hi)
  exact ⟨this.1, this.2.1⟩
/-- Both do the same. -/
theorem size_same {W : List Int} {s : PS} (h : PW W s) {o : Int} (ho : o ≠ nob) (b : Int) : (sizeP s o b).2 = (rSize W o b).2 ∧ PW (rSize W o b).1 (sizeP s o b).1 := by
  unfold sizeP rSize
  rw [h.of o ho, h.free]
  by_cases c1 : b < 0
  · rw [if_pos c1, if_pos c1]; exact ⟨rfl, h⟩
  rw [if_neg c1, if_neg c1]
  by_cases c2 : ((idxOf W nob).length : Int) < b - ((idxOf W o).length : Int)
  · rw [if_pos c2, if_pos ⟨by omega, c2⟩]; exact ⟨rfl, h⟩
  have n2 : ¬ (((idxOf W o).length : Int) < b ∧ ((idxOf W nob).length : Int) < b - ((idxOf W o).length : Int)) := fun q => c2 q.2
  rw [if_neg c2, if_neg n2]
  refine ⟨by split <;> rfl, ?_⟩
  have uF := idx_up W nob
  have uO := idx_up W o
  by_cases c3 : ((idxOf W o).length : Int) < b
  · rw [if_pos c3]
    have e0 : (idxOf W o).drop b.toNat = [] := List.drop_eq_nil_of_le (by omega)
    rw [e0]
    show PW (setAllW W ((idxOf W nob).take (b - ((idxOf W o).length : Int)).toNat) o) _
    generalize (b - ((idxOf W o).length : Int)).toNat = k
    have hg := setAllW_get o ((idxOf W nob).take k) W idx_take_in
    have hl := setAllW_len o ((idxOf W nob).take k) W
    refine ⟨?_, fun x hx => ?_⟩
    · refine up_ext (sortZ_up (up_nodup (up_drop uF k))) (idx_up _ _) fun y => ?_
      rw [mem_sortZ, mem_idx, hl]
      constructor
      · intro q
        have m := mem_idx.1 (List.mem_of_mem_drop q)
        refine ⟨m.1, m.2.1, ?_⟩
        rw [hg, if_neg fun r => nd_take_drop (up_nodup uF) (by rwa [Int.toNat_of_nonneg m.1] at r) q]
        exact m.2.2
      · rintro ⟨m1, m2, m3⟩
        rw [hg, Int.toNat_of_nonneg m1] at m3
        by_cases d : y ∈ (idxOf W nob).take k
        · rw [if_pos d] at m3; exact absurd m3 ho
        · rw [if_neg d] at m3
          exact ((mem_take_drop k y).1 (mem_idx.2 ⟨m1, m2, m3⟩)).resolve_left d
    · by_cases c : x = o
      · subst c
        show updP s.of x _ x = _
        rw [updP_same]
        refine up_ext (sortZ_up ?_) (idx_up _ _) fun y => ?_
        · rw [List.nodup_append]
          exact ⟨up_nodup uO, up_nodup (up_take uF k), fun a ha c hc q => by
            have m1 := (mem_idx.1 ha).2.2
            have m2 := (mem_idx.1 (List.mem_of_mem_take hc)).2.2
            subst q
            exact hx (m1.symm.trans m2)⟩
        · rw [mem_sortZ, List.mem_append, mem_idx (W := setAllW _ _ _), hl]
          constructor
          · intro q
            have m : 0 ≤ y ∧ y < (W.length : Int) := by
              rcases q with q | q
              · exact ⟨(mem_idx.1 q).1, (mem_idx.1 q).2.1⟩
              · exact idx_take_in _ q
            refine ⟨m.1, m.2, ?_⟩
            rw [hg, Int.toNat_of_nonneg m.1]
            by_cases d : y ∈ (idxOf W nob).take k
            · rw [if_pos d]
            · rw [if_neg d]
              exact (mem_idx.1 (q.resolve_right d)).2.2
          · rintro ⟨m1, m2, m3⟩
            rw [hg, Int.toNat_of_nonneg m1] at m3
            by_cases d : y ∈ (idxOf W nob).take k
            · exact .inr d
            · rw [if_neg d] at m3
              exact .inl (mem_idx.2 ⟨m1, m2, m3⟩)
      · show updP s.of o _ x = _
        rw [updP_other _ _ c, h.of x hx]
        refine up_ext (idx_up _ _) (idx_up _ _) fun y => ?_
        rw [mem_idx, mem_idx, hl]
        refine and_congr_right fun m1 => and_congr_right fun m2 => ?_
        rw [hg, Int.toNat_of_nonneg m1]
        by_cases d : y ∈ (idxOf W nob).take k
        · rw [if_pos d]
          have m3 := (mem_idx.1 (List.mem_of_mem_take d)).2.2
          rw [m3]
          exact ⟨fun q => absurd q.symm hx, fun q => absurd q.symm c⟩
        · rw [if_neg d]
  · rw [if_neg c3]
    have e0 : (b - ((idxOf W o).length : Int)).toNat = 0 := by omega
    rw [e0, List.take_zero]
    show PW (setAllW W ((idxOf W o).drop b.toNat) nob) _
    generalize b.toNat = k
    have hg := setAllW_get nob ((idxOf W o).drop k) W idx_drop_in
    have hl := setAllW_len nob ((idxOf W o).drop k) W
    refine ⟨?_, fun x hx => ?_⟩
    · refine up_ext (sortZ_up ?_) (idx_up _ _) fun y => ?_
      · rw [List.nodup_append]
        exact ⟨up_nodup uF, up_nodup (up_drop uO k), fun a ha c hc q => by
          have m1 := (mem_idx.1 ha).2.2
          have m2 := (mem_idx.1 (List.mem_of_mem_drop hc)).2.2
          subst q
          exact ho (m2.symm.trans m1)⟩
      · rw [mem_sortZ, List.mem_append, mem_idx (W := setAllW _ _ _), hl]
        constructor
        · intro q
          have m : 0 ≤ y ∧ y < (W.length : Int) := by
            rcases q with q | q
            · exact ⟨(mem_idx.1 q).1, (mem_idx.1 q).2.1⟩
            · exact idx_drop_in _ q
          refine ⟨m.1, m.2, ?_⟩
          rw [hg, Int.toNat_of_nonneg m.1]
          by_cases d : y ∈ (idxOf W o).drop k
          · rw [if_pos d]
          · rw [if_neg d]
            exact (mem_idx.1 (q.resolve_right d)).2.2
        · rintro ⟨m1, m2, m3⟩
          rw [hg, Int.toNat_of_nonneg m1] at m3
          by_cases d : y ∈ (idxOf W o).drop k
          · exact .inr d
          · rw [if_neg d] at m3
            exact .inl (mem_idx.2 ⟨m1, m2, m3⟩)
    · by_cases c : x = o
      · subst c
        show updP s.of x _ x = _
        rw [updP_same]
        refine up_ext (sortZ_up (up_nodup (up_take uO k))) (idx_up _ _) fun y => ?_
        rw [mem_sortZ, mem_idx (W := setAllW _ _ _), hl]
        constructor
        · intro q
          have m := mem_idx.1 (List.mem_of_mem_take q)
          refine ⟨m.1, m.2.1, ?_⟩
          rw [hg, Int.toNat_of_nonneg m.1, if_neg fun r => nd_take_drop (up_nodup uO) q r]
          exact m.2.2
        · rintro ⟨m1, m2, m3⟩
          rw [hg, Int.toNat_of_nonneg m1] at m3
          by_cases d : y ∈ (idxOf W x).drop k
          · rw [if_pos d] at m3; exact absurd m3.symm hx
          · rw [if_neg d] at m3
            exact ((mem_take_drop k y).1 (mem_idx.2 ⟨m1, m2, m3⟩)).resolve_right d
      · show updP s.of o _ x = _
        rw [updP_other _ _ c, h.of x hx]
        refine up_ext (idx_up _ _) (idx_up _ _) fun y => ?_
        rw [mem_idx, mem_idx, hl]
        refine and_congr_right fun m1 => and_congr_right fun m2 => ?_
        rw [hg, Int.toNat_of_nonneg m1]
        by_cases d : y ∈ (idxOf W o).drop k
        · rw [if_pos d]
          have m3 := (mem_idx.1 (List.mem_of_mem_drop d)).2.2
          rw [m3]
          exact ⟨fun q => absurd q.symm c, fun q => absurd q.symm hx⟩
        · rw [if_neg d]
theorem idx_start {n : Nat} {o : Int} : idxOf (List.replicate n nob) o = if o = nob then (List.range n).map (fun i : Nat => (i : Int)) else [] := by
  refine up_ext (idx_up _ _) (by split; exact range_up n; exact List.Pairwise.nil) fun y => ?_
  rw [mem_idx, List.length_replicate]
  have e : ∀ j, j < n → (List.replicate n nob).getD j 0 = nob := fun j hj => by rw [List.getD_eq_getElem?_getD, List.getElem?_replicate, if_pos hj]; rfl
  by_cases c : o = nob
  · rw [if_pos c, List.mem_map]
    exact ⟨fun q => ⟨y.toNat, List.mem_range.2 (by omega), by omega⟩, fun ⟨i, hi, q⟩ => by
      have := List.mem_range.1 hi
      subst q
      exact ⟨by omega, by omega, by rw [Int.toNat_natCast, e _ this]; exact c.symm⟩⟩
  · rw [if_neg c]
    exact ⟨fun q => absurd ((e _ (by omega)).symm.trans q.2.2) (Ne.symm c), fun q => (List.not_mem_nil q).elim⟩
theorem start_same (n : Nat) : PW (List.replicate n nob) (startP n) :=
  ⟨by rw [idx_start, if_pos rfl]; rfl, fun o ho => by rw [idx_start, if_neg ho]; rfl⟩
end Go.Ab
/- Blocks: what some calls come to. -/
namespace Go.Ab
set_option maxRecDepth 10000

/-- Numbers in a row: from lo on, up to hi. -/
def segI (lo hi : Int) : List Int := (List.range (hi - lo).toNat).map fun i : Nat => lo + (i : Int)
theorem seg_len (lo hi : Int) : (segI lo hi).length = (hi - lo).toNat := by simp [segI]
theorem seg_up (lo hi : Int) : Up (segI lo hi) := by
  unfold segI
  rw [Up, List.pairwise_map]
  exact List.pairwise_lt_range.imp fun h => by omega
theorem mem_seg {lo hi x : Int} : x ∈ segI lo hi ↔ lo ≤ x ∧ x < hi := by
  unfold segI
  rw [List.mem_map]
  constructor
  · rintro ⟨i, hi', rfl⟩
    have := List.mem_range.1 hi'
    omega
  · rintro ⟨h1, h2⟩
    exact ⟨(x - lo).toNat, List.mem_range.2 (by omega), by omega⟩
theorem segI_get {lo hi : Int} {i : Nat} (h : (i : Int) < hi - lo) : (segI lo hi)[i]? = some (lo + i) := by
  unfold segI
  rw [List.getElem?_map, List.getElem?_range (by omega)]; rfl
theorem seg_take {lo hi : Int} {k : Nat} (h : lo + k ≤ hi) : (segI lo hi).take k = segI lo (lo + k) := by
  refine List.ext_getElem? fun i => ?_
  rw [List.getElem?_take]
  by_cases c : i < k
  · rw [if_pos c, segI_get (by omega), segI_get (by omega)]
  · rw [if_neg c, List.getElem?_eq_none (by rw [seg_len]; omega)]
theorem seg_drop {lo hi : Int} {k : Nat} (_h : lo + k ≤ hi) : (segI lo hi).drop k = segI (lo + k) hi := by
  refine List.ext_getElem? fun i => ?_
  rw [List.getElem?_drop]
  by_cases c : lo + ((k + i : Nat) : Int) < hi
  · rw [segI_get (by omega), segI_get (by omega)]; congr 1; omega
  · rw [List.getElem?_eq_none (by rw [seg_len]; omega), List.getElem?_eq_none (by rw [seg_len]; omega)]
theorem start_seg (n : Nat) : (startP n).free = segI 0 n := by
  refine up_ext (range_up n) (seg_up _ _) fun x => ?_
  rw [mem_seg]
  show (x ∈ (List.range n).map fun i : Nat => (i : Int)) ↔ _
  rw [List.mem_map]
  exact ⟨fun ⟨i, hi, q⟩ => by have := List.mem_range.1 hi; omega, fun q => ⟨x.toNat, List.mem_range.2 (by omega), by omega⟩⟩
/-- Who has none takes the least ones. -/
theorem size_take {s : PS} {o b : Int} (hu : Up s.free) (h0 : s.of o = []) (h1 : 0 ≤ b) (h2 : b ≤ (s.free.length : Int)) : sizeP s o b = (⟨s.free.drop b.toNat, updP s.of o (s.free.take b.toNat)⟩, 0) := by
  unfold sizeP
  rw [h0, if_neg (show ¬ b < 0 by omega)]
  have e : b - (([] : List Int).length : Int) = b := by simp
  rw [e, if_neg (show ¬ (s.free.length : Int) < b by omega)]
  by_cases c : b = 0
  · subst c
    rw [if_neg (by simp)]
    show (PS.mk (sortZ (s.free ++ [])) (updP s.of o (sortZ [])), (0 : Int)) = _
    rw [List.append_nil, sortZ_id hu, sortZ_id (L := []) List.Pairwise.nil]; rfl
  · rw [if_pos (by simp; omega), List.nil_append, sortZ_id (up_drop hu _), sortZ_id (up_take hu _)]
/-- Less: the greatest ones go back. -/
theorem size_back {s : PS} {o b : Int} (hu : Up (s.of o)) (h1 : 0 ≤ b) (h2 : b ≤ ((s.of o).length : Int)) : sizeP s o b = (⟨sortZ (s.free ++ (s.of o).drop b.toNat), updP s.of o ((s.of o).take b.toNat)⟩, 0) := by
  unfold sizeP
  rw [if_neg (show ¬ b < 0 by omega), if_neg (show ¬ (s.free.length : Int) < b - ((s.of o).length : Int) by omega), if_neg (show ¬ ((s.of o).length : Int) < b by omega), sortZ_id (up_take hu _)]

def leastP (a b c : Int) : PS := (sizeP (sizeP (sizeP (sizeP (startP 100) 1 a).1 2 b).1 1 (a / 2)).1 3 c).1
theorem least_law {a b c : Int} (ha : 0 ≤ a ∧ a < 20) (hb : 0 ≤ b ∧ b < 20) (hc : 0 ≤ c ∧ c < 20) :
    (leastP a b c).of 3 = (segI (a / 2) a ++ segI (a + b) 100).take c.toNat ∧ (leastP a b c).of 1 = segI 0 (a / 2) ∧ (leastP a b c).of 2 = segI a (a + b) := by
  have u100 := seg_up 0 100
  have e1 : (sizeP (startP 100) 1 a).1 = ⟨segI a 100, updP (fun _ => []) 1 (segI 0 a)⟩ := by
    rw [size_take (by rw [start_seg]; exact seg_up _ _) rfl ha.1 (by rw [start_seg, seg_len]; omega), start_seg]
    show PS.mk _ _ = _
    rw [seg_drop (by omega), seg_take (by omega), show (0 : Int) + (a.toNat : Int) = a by omega]; rfl
  have e2 : (sizeP ⟨segI a 100, updP (fun _ => []) 1 (segI 0 a)⟩ 2 b).1 = ⟨segI (a + b) 100, updP (updP (fun _ => []) 1 (segI 0 a)) 2 (segI a (a + b))⟩ := by
    rw [size_take (seg_up _ _) (show updP (fun _ => []) 1 (segI 0 a) 2 = [] by rw [updP_other _ _ (by decide)]) hb.1 (by show b ≤ ((segI a 100).length : Int); rw [seg_len]; omega)]
    show PS.mk _ _ = _
    rw [seg_drop (by omega), seg_take (by omega), show a + (b.toNat : Int) = a + b by omega]
  have o1 : (updP (updP (fun _ => []) 1 (segI 0 a)) 2 (segI a (a + b))) 1 = segI 0 a := by rw [updP_other _ _ (by decide), updP_same]
  have e3 : (sizeP ⟨segI (a + b) 100, updP (updP (fun _ => []) 1 (segI 0 a)) 2 (segI a (a + b))⟩ 1 (a / 2)).1 = ⟨segI (a / 2) a ++ segI (a + b) 100, updP (updP (updP (fun _ => []) 1 (segI 0 a)) 2 (segI a (a + b))) 1 (segI 0 (a / 2))⟩ := by
    rw [size_back (show Up (updP (updP (fun _ => []) 1 (segI 0 a)) 2 (segI a (a + b)) 1) by rw [o1]; exact seg_up _ _) (by omega) (show a / 2 ≤ ((updP (updP (fun _ => []) 1 (segI 0 a)) 2 (segI a (a + b)) 1).length : Int) by rw [o1, seg_len]; omega)]
    show PS.mk (sortZ (segI (a + b) 100 ++ (updP (updP (fun _ => []) 1 (segI 0 a)) 2 (segI a (a + b)) 1).drop (a / 2).toNat)) (updP _ 1 ((updP (updP (fun _ => []) 1 (segI 0 a)) 2 (segI a (a + b)) 1).take (a / 2).toNat)) = _
    rw [o1, seg_drop (by omega), seg_take (by omega), show (0 : Int) + ((a / 2).toNat : Int) = a / 2 by omega]
    have hup : Up (segI (a / 2) a ++ segI (a + b) 100) := List.pairwise_append.2 ⟨seg_up _ _, seg_up _ _, fun x hx y hy => by
      have := mem_seg.1 hx
      have := mem_seg.1 hy
      omega⟩
    congr 1
    refine up_ext (sortZ_up ?_) hup fun x => ?_
    · exact ((List.perm_append_comm).nodup_iff).1 (up_nodup hup)
    · rw [mem_sortZ, List.mem_append, List.mem_append]
      exact Or.comm
  have hup : Up (segI (a / 2) a ++ segI (a + b) 100) := List.pairwise_append.2 ⟨seg_up _ _, seg_up _ _, fun x hx y hy => by
      have := mem_seg.1 hx
      have := mem_seg.1 hy
      omega⟩
  have e4 : leastP a b c = ⟨(segI (a / 2) a ++ segI (a + b) 100).drop c.toNat, updP (updP (updP (updP (fun _ => []) 1 (segI 0 a)) 2 (segI a (a + b))) 1 (segI 0 (a / 2))) 3 ((segI (a / 2) a ++ segI (a + b) 100).take c.toNat)⟩ := by
    unfold leastP
    rw [e1, e2, e3, size_take hup (show updP (updP (updP (fun _ => []) 1 (segI 0 a)) 2 (segI a (a + b))) 1 (segI 0 (a / 2)) 3 = [] by rw [updP_other _ _ (by decide), updP_other _ _ (by decide), updP_other _ _ (by decide)]) hc.1 (by show c ≤ ((segI (a / 2) a ++ segI (a + b) 100).length : Int); rw [List.length_append, seg_len, seg_len]; omega)]
  rw [e4]
  refine ⟨updP_same (updP (updP (updP (fun _ => []) 1 (segI 0 a)) 2 (segI a (a + b))) 1 (segI 0 (a / 2))) 3 _, ?_, ?_⟩
  · show updP (updP (updP (updP (fun _ => []) 1 (segI 0 a)) 2 (segI a (a + b))) 1 (segI 0 (a / 2))) 3 ((segI (a / 2) a ++ segI (a + b) 100).take c.toNat) 1 = _
    rw [updP_other _ _ (by decide), updP_same]
  · show updP (updP (updP (updP (fun _ => []) 1 (segI 0 a)) 2 (segI a (a + b))) 1 (segI 0 (a / 2))) 3 ((segI (a / 2) a ++ segI (a + b) 100).take c.toNat) 2 = _
    rw [updP_other _ _ (by decide), updP_other _ _ (by decide), updP_same]
theorem least_at {a b c : Int} {i : Nat} (ha : 0 ≤ a ∧ a < 20) (hb : 0 ≤ b ∧ b < 20) (hc : 0 ≤ c ∧ c < 20) (hi : (i : Int) < c) :
    ((segI (a / 2) a ++ segI (a + b) 100).take c.toNat)[i]? = some (if a - a / 2 ≤ i then a + b + i - (a - a / 2) else a / 2 + i) := by
  rw [List.getElem?_take, if_pos (by omega)]
  by_cases d : a - a / 2 ≤ i
  · rw [if_pos d, List.getElem?_append_right (by rw [seg_len]; omega), seg_len, segI_get (by omega)]
    congr 1; omega
  · rw [if_neg d, List.getElem?_append_left (by rw [seg_len]; omega), segI_get (by omega)]
theorem least_len {a b c : Int} (ha : 0 ≤ a ∧ a < 20) (hb : 0 ≤ b ∧ b < 20) (hc : 0 ≤ c ∧ c < 20) : ((segI (a / 2) a ++ segI (a + b) 100).take c.toNat).length = c.toNat := by
  rw [List.length_take, List.length_append, seg_len, seg_len]; omega

/-! Who gives back what it took. -/
theorem turn_law {N : Nat} {s : PS} (h : PInv N s) {o k : Int} (h0 : s.of o = []) (hk : 0 ≤ k) :
    ((sizeP s o k).2 = 0 ↔ k ≤ (s.free.length : Int)) ∧ ((sizeP s o k).2 ≠ 0 → (sizeP s o k) = (s, 6)) ∧
    ((sizeP s o k).2 = 0 → ((sizeP s o k).1.free.length : Int) = (s.free.length : Int) - k ∧ (((sizeP s o k).1.of o).length : Int) = k) ∧
    (sizeP (sizeP s o k).1 o 0).2 = 0 ∧ (sizeP (sizeP s o k).1 o 0).1.free.length = s.free.length ∧ (sizeP (sizeP s o k).1 o 0).1.of o = [] ∧ (sizeP (sizeP (sizeP s o k).1 o 0).1 o (-1)).2 = 2 := by
  have neg : ∀ s : PS, (sizeP s o (-1)).2 = 2 := fun s => by unfold sizeP; rw [if_pos (by decide)]
  by_cases c : k ≤ (s.free.length : Int)
  · have e := size_take h.upF h0 hk c
    have hb : sizeP (sizeP s o k).1 o 0 = _ := size_back (size_inv h o k |>.upO o) (Int.le_refl _) (by omega)
    rw [hb, e]
    refine ⟨⟨fun _ => c, fun _ => rfl⟩, fun q => absurd rfl q, fun _ => ⟨?_, ?_⟩, rfl, ?_, ?_, neg _⟩
    · show ((s.free.drop k.toNat).length : Int) = _
      rw [List.length_drop]; omega
    · show ((updP _ _ _ _).length : Int) = _
      rw [updP_same, List.length_take]; omega
    · show (sortZ (s.free.drop k.toNat ++ (updP s.of o (s.free.take k.toNat) o).drop 0)).length = _
      rw [sortZ_le, updP_same, List.drop_zero, List.length_append, List.length_drop, List.length_take]; omega
    · show updP _ o ((updP _ _ _ _).take 0) o = _
      rw [updP_same, List.take_zero]
  · have e : sizeP s o k = (s, 6) := by
      unfold sizeP
      rw [h0, if_neg (show ¬ k < 0 by omega), if_pos (by simp; omega)]
    have hb : sizeP s o 0 = _ := size_back (h.upO o) (Int.le_refl _) (by omega)
    rw [e]
    refine ⟨⟨fun q => absurd (show (6 : Int) = 0 from q) (by decide), fun q => absurd q c⟩, fun _ => rfl, fun q => absurd (show (6 : Int) = 0 from q) (by decide), ?_, ?_, ?_, neg _⟩
    · show (sizeP s o 0).2 = 0
      rw [hb]
    · show (sizeP s o 0).1.free.length = _
      rw [hb]
      show (sortZ (s.free ++ (s.of o).drop 0)).length = _
      rw [sortZ_le, h0]; simp
    · show (sizeP s o 0).1.of o = _
      rw [hb]
      show updP _ o ((s.of o).take 0) o = _
      rw [updP_same, List.take_zero]
theorem size_other {s : PS} {o b x : Int} (h : x ≠ o) : (sizeP s o b).1.of x = s.of x := by
  unfold sizeP
  split
  · rfl
  · split
    · rfl
    · split
      · exact updP_other _ _ h
      · exact updP_other _ _ h
/-- All of them together: as many as there are. -/
theorem whole_count {N : Nat} {s : PS} (h : PInv N s) {l : List Int} (hl : l.Nodup) (hall : ∀ o, s.of o ≠ [] → o ∈ l) : (l.flatMap s.of).Nodup ∧ (l.flatMap s.of).length + s.free.length = N := by
  have nd : (l.flatMap s.of).Nodup := by
    clear hall
    induction l with
    | nil => exact List.Pairwise.nil
    | cons o l ih =>
      have hl' := List.nodup_cons.1 hl
      rw [List.flatMap_cons, List.nodup_append]
      refine ⟨up_nodup (h.upO o), ih hl'.2, fun x hx y hy q => ?_⟩
      subst q
      obtain ⟨o', ho', hx'⟩ := List.mem_flatMap.1 hy
      exact hl'.1 (h.apO _ _ _ hx hx' ▸ ho')
  refine ⟨nd, ?_⟩
  have nd2 : (l.flatMap s.of ++ s.free).Nodup := by
    rw [List.nodup_append]
    refine ⟨nd, up_nodup h.upF, fun x hx y hy q => ?_⟩
    subst q
    obtain ⟨o', _, hx'⟩ := List.mem_flatMap.1 hx
    exact h.apF _ _ hx' hy
  have e : sortZ (l.flatMap s.of ++ s.free) = (startP N).free := by
    refine up_ext (sortZ_up nd2) (range_up N) fun x => ?_
    rw [mem_sortZ, List.mem_append, start_seg, mem_seg]
    constructor
    · rintro (q | q)
      · obtain ⟨o', _, hx'⟩ := List.mem_flatMap.1 q
        exact h.inO _ _ hx'
      · exact h.inF _ q
    · rintro ⟨h1, h2⟩
      rcases h.all x h1 h2 with q | ⟨o, q⟩
      · exact .inr q
      · exact .inl (List.mem_flatMap.2 ⟨o, hall o (fun r => by rw [r] at q; exact List.not_mem_nil q), q⟩)
  have := congrArg List.length e
  rw [sortZ_le, List.length_append] at this
  rw [this]
  simp [startP]
end Go.Ab
/- pool: what its functions do. -/
namespace Go.Ab
noncomputable section
open Go.Proofs
set_option maxRecDepth 10000
variable {H H' : AH} {Q : Int → Prop}

abbrev nilS : AV := .slice none 0 0 true
theorem own_nilS {e : TypeId} {sz B : Nat} {X : List (List AV)} (h : Own H e sz B nilS X) : X = [] := by
  obtain ⟨_, q⟩ | ⟨o, c, ex, cs, q, _⟩ := h.ex
  · exact q
  · cases q
theorem os_nilS {e : TypeId} {k : IntKind} {B : Nat} {L : List Int} (h : Os e k H B nilS L) : L = [] := List.map_eq_nil_iff.1 (own_nilS h)
theorem os_low {e : TypeId} {k : IntKind} {B : Nat} {s : AV} {L : List Int} (h : Os e k H B s L) : s = nilS ∨ B < H.next := by
  obtain ⟨q, _⟩ | ⟨o, c, ex, cs, _, _, _, _, _, _, q⟩ := h.ex
  · exact .inl q
  · exact .inr q
theorem setM_key {Q : Int → Prop} {M : Me} (k : Int) (v : AV) (clk : Nat) (h : ∀ x ∈ keysM M, Q x) (hk : Q k) : ∀ x ∈ keysM (setM M k v clk), Q x := by
  by_cases c : k ∈ keysM M
  · rw [setM_keys_in v clk c]; exact h
  · rw [setM_keys_out v clk c]
    intro x hx
    rcases List.mem_append.1 hx with q | q
    · exact h x q
    · rw [List.mem_singleton.1 q]; exact hk
/-- A pool at p: fl: its blocks; Q: of its keys. -/
structure PlM (Q : Int → Prop) (H : AH) (fl : List Nat) (p m Bf : Nat) (sf : AV) (M : Me) (bl : Int → Nat) (s : PS) (skip : Option Int) : Prop where
  hp : H.get p = some (.cells 207 [sf, .map (some m)])
  hm : ∃ clk, H.get m = some (.mp (ents M) clk) ∧ St M clk
  nd : (keysM M).Nodup
  key : ∀ k ∈ keysM M, Q k
  fr : Is .i64 H Bf sf s.free
  own : ∀ k, skip ≠ some k → Os 3 .i64 H (bl k) (lookM nilS M k) (s.of k)
  pin : p ∈ fl
  min : m ∈ fl
  pm : m ≠ p
  fin : s.free = [] ∨ (Bf ∈ fl ∧ Bf ≠ p ∧ Bf ≠ m)
  oin : ∀ k, skip ≠ some k → lookM nilS M k = nilS ∨ (bl k ∈ fl ∧ bl k ≠ p ∧ bl k ≠ m ∧ (s.free = [] ∨ Bf ≠ bl k))
  apart : ∀ k k', k ≠ k' → skip ≠ some k → skip ≠ some k' → lookM nilS M k = nilS ∨ lookM nilS M k' = nilS ∨ bl k ≠ bl k'
  low : ∀ b ∈ fl, b < H.next
def Pl (Q : Int → Prop) (H : AH) (fl : List Nat) (p : Nat) (s : PS) : Prop := ∃ m Bf sf M bl, PlM Q H fl p m Bf sf M bl s none
theorem Pl.mono {fl : List Nat} {p : Nat} {s : PS} (h : Pl Q H fl p s) {mods : List Nat} (e : Ext mods H H') (hd : ∀ b ∈ mods, b ∉ fl) : Pl Q H' fl p s := by
  obtain ⟨m, Bf, sf, M, bl, h⟩ := h
  refine ⟨m, Bf, sf, M, bl, e.get (h.low _ h.pin) (fun q => hd _ q h.pin) h.hp, ?_, h.nd, h.key, Sl.mono' h.fr e fun q => ?_, fun k hk => ?_, h.pin, h.min, h.pm, h.fin, h.oin, h.apart, fun b hb => Nat.lt_of_lt_of_le (h.low b hb) e.next⟩
  · obtain ⟨clk, q, st⟩ := h.hm
    exact ⟨clk, e.get (h.low _ h.min) (fun q => hd _ q h.min) q, st⟩
  · rcases h.fin with r | ⟨r, _⟩
    · rw [r]; rfl
    · exact absurd r (hd _ q)
  · rcases h.oin k hk with r | ⟨r, _⟩
    · have o := h.own k hk
      rw [r] at o ⊢
      rw [os_nilS o]; exact os_nil _ _ _
    · exact Own.mono (h.own k hk) e fun q => hd _ q r
theorem Pl.low {fl : List Nat} {p : Nat} {s : PS} (h : Pl Q H fl p s) : ∀ b ∈ fl, b < H.next := by
  obtain ⟨m, Bf, sf, M, bl, h⟩ := h
  exact h.low
theorem Pl.pin {fl : List Nat} {p : Nat} {s : PS} (h : Pl Q H fl p s) : p ∈ fl := by
  obtain ⟨m, Bf, sf, M, bl, h⟩ := h
  exact h.pin
theorem eq_pool (b o : Nat) : w_eq PP .eql 110 false true H (.ptr (some (b, o))) (.ptr none) = some (.val (.bool false) H) := by kernel_rfl
theorem pool_build (m : Nat) : w_build PP 207 H [(1, .map (some m))] = some (.val (.agg [.slice none 0 0 true, .map (some m)]) H) := by kernel_rfl
theorem int_un : PP.underlying 3 = some (.int .i64) := by kernel_rfl
theorem ints_zero : zeroA PP 54 = some nilS := by kernel_rfl
theorem int_by : byOf PP 3 = some 8 := by kernel_rfl
theorem slk_one {s : AV} (h : SlK s) : s.one = true ∧ clearA s = some s ∧ s.parts = [s] ∧ s.known = true := by
  rcases h with q | ⟨_, _, q⟩ | ⟨_, _, _, _, _, q⟩ <;> rw [q] <;> exact ⟨rfl, rfl, rfl, rfl⟩

/-! New. -/
theorem range_snoc (j : Nat) : (List.range (j + 1)).map (fun i : Nat => (i : Int)) = (List.range j).map (fun i : Nat => (i : Int)) ++ [(j : Int)] := by
  rw [List.range_succ, List.map_append]; rfl
theorem poolNew_wp (n : Int) (K : AV → AH → Prop) (hK : ∀ H' fl p, Ext [] H H' → (∀ b ∈ fl, H.next ≤ b) → Pl Q H' fl p (startP (min (max n 0) 1000).toNat) → K (.ptr (some (p, 0))) H') :
    CC.call 121 [.int .i64 n] H K := by
  refine m_pool_New_ok _ _ _ ?_
  unfold m_pool_New m_pool_Newt
  rw [w_make_map, outP_val, pool_build, outP_val, w_box_c, parts_agg, show [AV.slice none 0 0 true, AV.map (some H.next)].all AV.one = true from rfl, br_true, outP_val, next_new]
  have x1 : Ext [] H ((H.new (.mp (ents []) 0)).new (.cells 207 [.slice none 0 0 true, .map (some H.next)])) := ((Ext.refl _ _).new _).new _
  have gm : ((H.new (.mp (ents []) 0)).new (.cells 207 [.slice none 0 0 true, .map (some H.next)])).get H.next = some (.mp (ents []) 0) := by
    rw [get_new_ne _ (by rw [next_new]; omega), get_new_same]
  have gp := get_new_same (H.new (.mp (ents []) 0)) (.cells 207 [.slice none 0 0 true, .map (some H.next)])
  have n1 : ((H.new (.mp (ents []) 0)).new (.cells 207 [.slice none 0 0 true, .map (some H.next)])).next = H.next + 2 := by rw [next_new, next_new]
  rw [next_new] at gp
  generalize (H.new (.mp (ents []) 0)).new (.cells 207 [.slice none 0 0 true, .map (some H.next)]) = G at *
  unfold m_pool_Newtth
  rw [w_max2_int, outP_val, w_min2_int, outP_val]
  obtain ⟨N, hN⟩ : ∃ N : Nat, min (max n 0) 1000 = N := ⟨(min (max n 0) 1000).toNat, by omega⟩
  rw [hN, Int.toNat_natCast] at hK
  rw [hN]
  have hN1 : N ≤ 1000 := by omega
  unfold m_pool_Newtthtb
  refine loopP_rule (I := fun t G' => ∃ (j B : Nat) (s : AV), t = (.ptr (some (H.next + 1, 0)), .int .i64 N, .int .i64 j) ∧ j ≤ N ∧ Ext [] H G' ∧ H.next + 2 ≤ G'.next ∧ G'.get H.next = some (.mp (ents []) 0) ∧ G'.get (H.next + 1) = some (.cells 207 [s, .map (some H.next)]) ∧ H.next + 2 ≤ B ∧ Os 3 .i64 G' B s ((List.range j).map fun i : Nat => (i : Int)))
    (μ := fun t _ => match t.2.2 with | .int _ z => N - z.toNat | _ => 0) ?_ ⟨0, H.next + 2, nilS, rfl, Nat.zero_le _, x1, by omega, gm, gp, Nat.le_refl _, os_nil _ _ _⟩
  rintro t G' ⟨j, B, s, rfl, hj, x2, n2, gm, gp, hB, os⟩ rec hrec
  unfold m_pool_Newtthtbl
  rw [w_lss, outP_val]
  by_cases cj : j < N
  · obtain ⟨f1, f2, f4, f3⟩ := Own.facts os
    rw [decide_eq_true (by omega), condP_true, w_nil_ptr, outP_val, w_fieldAddr_ptr, outP_val, w_load_c, gp, ldV_cells, show ([s, .map (some H.next)] : List AV)[0 + 0]? = some s from rfl, ob_some, f2, vO_some, outP_val]
    refine push_num int_el' (by omega) os (by simp; omega) _ _ fun G2 s2 B2 x3 hB2 o2 => ?_
    have n3 := x3.next
    have gp2 : G2.get (H.next + 1) = _ := x3.get (by omega) (by simp; omega) gp
    have gm2 : G2.get H.next = _ := x3.get (by omega) (by simp; omega) gm
    obtain ⟨g1, _, g4, _⟩ := Own.facts o2
    rw [w_nil_ptr, outP_val, w_fieldAddr_ptr, outP_val, w_store_c, gp2, Nat.add_zero, stN_fst _ _ _ _ _ g1, outP_skip, w_add_in (by omega) (by omega), outP_val]
    have x4 : Ext [H.next + 1] G2 (G2.put (H.next + 1) (some (.cells 207 [s2, .map (some H.next)]))) := (Ext.refl _ _).put (.inr (by simp)) _
    refine hrec _ _ ⟨j + 1, B2, s2, by rfl, by omega, ?_, by rw [AH.next_put]; omega, by rw [get_put_ne _ (by omega)]; exact gm2, get_put_same _ _, by omega, ?_⟩ ?_
    · refine (((x2.mono (m' := [B]) (by simp)).trans x3).mono (m' := []) fun b hb hlt => ?_).put (.inl (by omega)) _
      simp at hb; omega
    · rw [range_snoc]
      exact Own.mono o2 x4 (by simp; omega)
    · show N - ((j : Int) + 1).toNat < N - (j : Int).toNat
      omega
  · rw [decide_eq_false (by omega), condP_false]
    obtain rfl : j = N := by omega
    have dS : Decidable (s = nilS) := Classical.propDecidable _
    have fs : ∀ b ∈ ([H.next, H.next + 1] ++ if s = nilS then [] else [B] : List Nat), H.next ≤ b ∧ b < G'.next := by
      intro b hb
      rcases List.mem_append.1 hb with q | q
      · simp at q; omega
      · by_cases c : s = nilS
        · rw [if_pos c] at q; simp at q
        · rw [if_neg c] at q
          have := (os_low os).resolve_left c
          simp at q; omega
    refine hK _ ([H.next, H.next + 1] ++ if s = nilS then [] else [B]) _ x2 (fun b hb => (fs b hb).1) ⟨H.next, B, s, [], fun _ => 0, gp, ⟨0, gm, st_nil 0⟩, List.Pairwise.nil, (fun k hk => by cases hk), os.is, fun k _ => os_nil _ _ _, by simp, by simp, by omega, ?_, fun k _ => .inl rfl, fun k k' _ _ _ => .inl rfl, fun b hb => (fs b hb).2⟩
    by_cases c : s = nilS
    · left
      subst c
      exact os_nilS os
    · right
      exact ⟨by rw [if_neg c]; simp, by omega, by omega⟩

/-! Free, Of. -/
theorem PlM.ldf {fl : List Nat} {p m Bf : Nat} {sf : AV} {M : Me} {bl : Int → Nat} {s : PS} {k : Option Int} (h : PlM Q H fl p m Bf sf M bl s k) (_G : AH) : w_load none H (.ptr (some (p, 0))) = some (.val sf H) := by
  rw [w_load_c, h.hp, ldV_cells, show ([sf, .map (some m)] : List AV)[0]? = some sf from rfl, ob_some, (Sl.facts h.fr).2.1, vO_some]
theorem PlM.ldm {fl : List Nat} {p m Bf : Nat} {sf : AV} {M : Me} {bl : Int → Nat} {s : PS} {k : Option Int} (h : PlM Q H fl p m Bf sf M bl s k) : w_load none H (.ptr (some (p, 1))) = some (.val (.map (some m)) H) := by
  rw [w_load_c, h.hp, ldV_cells, show ([sf, .map (some m)] : List AV)[1]? = some (.map (some m)) from rfl, ob_some]; rfl
theorem poolFree_wp {fl : List Nat} {p : Nat} {s : PS} (h : Pl Q H fl p s) (K : AV → AH → Prop) (hK : K (.int .i64 (s.free.length : Int)) H) : CC.call 52 [.ptr (some (p, 0))] H K := by
  refine m_pool_Pool_Free_ok _ _ _ ?_
  unfold m_pool_Pool_Free
  obtain ⟨m, Bf, sf, M, bl, h⟩ := h
  rw [eq_pool, outP_val, condP_false, w_nil_ptr, outP_val, w_fieldAddr_ptr, outP_val, Nat.add_zero, h.ldf H, outP_val, h.fr.len ints_sl, outP_val]
  exact hK
theorem poolOf_wp {fl : List Nat} {p : Nat} {s : PS} (h : Pl Q H fl p s) (o : Int) (hl : (s.of o).length ≤ 100000) (K : AV → AH → Prop) (hK : ∀ H' s' B, Ext [] H H' → H.next ≤ B → Os 3 .i64 H' B s' (s.of o) → K s' H') :
    CC.call 375 [.ptr (some (p, 0)), .int .i64 o] H K := by
  refine m_pool_Pool_Of_ok _ _ _ _ ?_
  unfold m_pool_Pool_Of
  obtain ⟨m, Bf, sf, M, bl, h⟩ := h
  obtain ⟨clk, hm, hst⟩ := h.hm
  rw [eq_pool, outP_val, condP_false, w_nil_ptr, outP_val, w_fieldAddr_ptr, outP_val, Nat.zero_add, h.ldm, outP_val, w_look int_un ints_zero hm, outP_val, outP_enter]
  refine clone_ints (h.own o (by simp)).is hl _ fun H1 s1 B1 x1 hB1 o1 => ?_
  exact hK _ _ _ x1 hB1 o1

/-! Size. -/
theorem lookM_set_same (M : Me) (k : Int) (v : AV) (clk : Nat) (h : (keysM M).Nodup) : lookM nilS (setM M k v clk) k = v := lookM_same M k v nilS clk h
theorem map_beq (m : Nat) : AV.beq (.map (some m)) (.map (some m)) = true := by simp [AV.beq]
/-- Who asked gets T, what is free is F. -/
theorem tail_wp {fl : List Nat} {p m Bf Bh : Nat} {sf hv : AV} {M : Me} {bl : Int → Nat} {s : PS} {o : Int} {T : List Int} (h : PlM Q H fl p m Bf sf M bl s (some o)) (hQ : Q o) (ht : Is .i64 H Bh hv T) (hBh : T = [] ∨ Bh ≠ p) (hF : s.free.length ≤ 10000) (hT : T.length ≤ 10000) (K : AV → AH → Prop)
    (hK : ∀ H' fl', Ext [p, m] H H' → (∀ b ∈ fl', b ∈ fl ∨ H.next ≤ b) → Pl Q H' fl' p ⟨sortZ s.free, updP s.of o (sortZ T)⟩ → K (.int .i64 0) H') :
    m_pool_Pool_Sizetttt K (.ptr (some (p, 0))) (.int .i64 o) hv H := by
  unfold m_pool_Pool_Sizetttt
  have hpl := h.low _ h.pin
  have hml := h.low _ h.min
  obtain ⟨clk, hm, hst⟩ := h.hm
  rw [w_nil_ptr, outP_val, w_fieldAddr_ptr, outP_val, Nat.add_zero, h.ldf H, outP_val, outP_enter]
  refine values_wp h.fr _ fun H1 q1 x1 hq1 hq1' hgq1 => ?_
  rw [outP_enter]
  refine sorted_wp (Sl.mono h.fr x1 (by simp)) (by omega) hgq1 hq1' _ fun H2 sF BF x2 hBF oF => ?_
  have x12 := x1.trans x2
  have n12 := x12.next
  have n1 := x1.next
  have hp2 : H2.get p = _ := x12.get hpl (by simp) h.hp
  obtain ⟨f1, f2, f4, f3⟩ := Own.facts oF
  rw [w_nil_ptr, outP_val, w_fieldAddr_ptr, outP_val, Nat.add_zero, w_store_c, hp2, stN_fst _ _ _ _ _ f1, outP_skip]
  have x3 : Ext [p] H2 (H2.put p (some (.cells 207 [sF, .map (some m)]))) := (Ext.refl _ _).put (.inr (by simp)) _
  have hp3 := get_put_same (H := H2) p (some (.cells 207 [sF, .map (some m)]))
  have x13 : Ext [p] H (H2.put p (some (.cells 207 [sF, .map (some m)]))) := (x12.mono (by simp)).trans x3
  have oF := Own.mono oF x3 (by simp; omega)
  have hm3 : (H2.put p (some (.cells 207 [sF, .map (some m)]))).get m = _ := x13.get hml (by simp; exact h.pm) hm
  have n3 : (H2.put p (some (.cells 207 [sF, .map (some m)]))).next = H2.next := AH.next_put _ _ _
  have ht3 : Is .i64 (H2.put p (some (.cells 207 [sF, .map (some m)]))) Bh hv T := Sl.mono' (Sl.mono ht x12 (by simp)) x3 fun q => by
    rcases hBh with r | r
    · rw [r]; rfl
    · simp at q; exact absurd q r
  generalize H2.put p (some (.cells 207 [sF, .map (some m)])) = G at *
  have lm : ∀ G' : AH, Ext [] G G' → w_load none G' (.ptr (some (p, 1))) = some (.val (.map (some m)) G') := fun G' e => by
    rw [w_load_c, e.get (by omega) (by simp) hp3, ldV_cells, show ([sF, .map (some m)] : List AV)[1]? = some (.map (some m)) from rfl, ob_some]; rfl
  rw [w_nil_ptr, outP_val, w_fieldAddr_ptr, outP_val, Nat.zero_add, lm G (Ext.refl _ _), outP_val, outP_enter]
  refine values_wp ht3 _ fun H4 q4 x4 hq4 hq4' hgq4 => ?_
  rw [lm H4 x4, reC_val, map_beq, ckP_true, outP_enter]
  refine sorted_wp (Sl.mono ht3 x4 (by simp)) (by omega) hgq4 hq4' _ fun H5 sT BT x5 hBT oT => ?_
  have x45 := x4.trans x5
  have n4 := x4.next
  have n5 := x5.next
  rw [lm H5 x45, reC_val, map_beq, ckP_true]
  have hm5 : H5.get m = _ := x45.get (by omega) (by simp) hm3
  obtain ⟨clk', hset, hst'⟩ := w_setS (kt := 3) (et := 54) int_un hm5 o sT
  rw [hset, outP_skip]
  have x6 : Ext [m] H5 (H5.put m (some (.mp (ents (setM M o sT clk)) clk'))) := (Ext.refl _ _).put (.inr (by simp)) _
  have xall : Ext [p, m] H (H5.put m (some (.mp (ents (setM M o sT clk)) clk'))) := ((x13.mono (m' := [p, m]) (by simp)).trans (x45.mono (by simp))).trans (x6.mono (by simp))
  have n6 : (H5.put m (some (.mp (ents (setM M o sT clk)) clk'))).next = H5.next := AH.next_put _ _ _
  have hp6 : (H5.put m (some (.mp (ents (setM M o sT clk)) clk'))).get p = _ := x6.get (by omega) (by simp; exact fun q => h.pm q.symm) (x45.get (by omega) (by simp) hp3)
  have hm6 := get_put_same (H := H5) m (some (.mp (ents (setM M o sT clk)) clk'))
  have oT := Own.mono oT x6 (by simp; omega)
  have oF' := oF
  have oF := Own.mono (Own.mono oF x45 (by simp)) x6 (by simp; omega)
  have lk : ∀ k, k ≠ o → lookM nilS (setM M o sT clk) k = lookM nilS M k := fun k hk => lookM_other M sT nilS clk h.nd hk
  have lo : lookM nilS (setM M o sT clk) o = sT := lookM_same M o sT nilS clk h.nd
  have sk : ∀ k, k ≠ o → (some o : Option Int) ≠ some k := fun k hk q => hk (Option.some.inj q).symm
  generalize H5.put m (some (.mp (ents (setM M o sT clk)) clk')) = G6 at *
  have dF : Decidable (sF = nilS) := Classical.propDecidable _
  have dT : Decidable (sT = nilS) := Classical.propDecidable _
  have fF : sF = nilS ∨ BF < G6.next := os_low oF
  have fT : sT = nilS ∨ BT < G6.next := os_low oT
  refine hK _ ((if sF = nilS then [] else [BF]) ++ ((if sT = nilS then [] else [BT]) ++ fl)) xall (fun b hb => ?_) ⟨m, BF, sF, setM M o sT clk, fun k => if k = o then BT else bl k, hp6, ⟨clk', hm6, hst' hst⟩, setM_nodup o sT clk h.nd, setM_key o sT clk h.key hQ, Own.sl oF, fun k _ => ?_, by simp [h.pin], by simp [h.min], h.pm, ?_, fun k _ => ?_, fun k k' hkk _ _ => ?_, fun b hb => ?_⟩
  · rcases List.mem_append.1 hb with q | q
    · split at q
      · simp at q
      · simp at q; omega
    · rcases List.mem_append.1 q with q | q
      · split at q
        · simp at q
        · simp at q; omega
      · exact .inl q
  · by_cases c : k = o
    · subst c
      show Os _ _ _ (if k = k then BT else bl k) _ (updP s.of k (sortZ T) k)
      rw [if_pos rfl, lo, updP_same]; exact oT
    · show Os _ _ _ (if k = o then BT else bl k) _ (updP s.of o (sortZ T) k)
      rw [if_neg c, lk k c, updP_other _ _ c]
      have ok := h.own k (sk k c)
      rcases h.oin k (sk k c) with r | ⟨r, r1, r2, _⟩
      · rw [r] at ok ⊢
        rw [os_nilS ok]; exact os_nil _ _ _
      · exact Own.mono ok xall (by simp; exact ⟨r1, r2⟩)
  · by_cases c : sF = nilS
    · left
      rw [c] at oF
      exact os_nilS oF
    · right
      exact ⟨by rw [if_neg c]; simp, by omega, by omega⟩
  · have key : ∀ b, b < H.next → sortZ s.free = [] ∨ BF ≠ b := fun b hb => .inr (by omega)
    by_cases c : k = o
    · subst c
      show _ ∨ ((if k = k then BT else bl k) ∈ _ ∧ (if k = k then BT else bl k) ≠ p ∧ (if k = k then BT else bl k) ≠ m ∧ (sortZ s.free = [] ∨ BF ≠ (if k = k then BT else bl k)))
      rw [if_pos rfl, lo]
      by_cases d : sT = nilS
      · exact .inl d
      · refine .inr ⟨by rw [if_neg d]; simp, by omega, by omega, ?_⟩
        rcases fF with q | q
        · rw [q] at oF
          exact .inl (os_nilS oF)
        · rcases os_low oF' with q | q
          · rw [q] at oF
            exact .inl (os_nilS oF)
          · exact .inr (by omega)
    · show _ ∨ ((if k = o then BT else bl k) ∈ _ ∧ (if k = o then BT else bl k) ≠ p ∧ (if k = o then BT else bl k) ≠ m ∧ (sortZ s.free = [] ∨ BF ≠ (if k = o then BT else bl k)))
      rw [if_neg c, lk k c]
      rcases h.oin k (sk k c) with r | ⟨r, r1, r2, _⟩
      · exact .inl r
      · exact .inr ⟨by simp [r], r1, r2, key _ (h.low _ r)⟩
  · show _ ∨ _ ∨ (if k = o then BT else bl k) ≠ (if k' = o then BT else bl k')
    by_cases c : k = o
    · by_cases c' : k' = o
      · exact absurd (c.trans c'.symm) hkk
      · rw [if_pos c, if_neg c', lk k' c']
        rcases h.oin k' (sk k' c') with r | ⟨r, _⟩
        · exact .inr (.inl r)
        · exact .inr (.inr (by have := h.low _ r; omega))
    · rw [if_neg c, lk k c]
      by_cases c' : k' = o
      · rw [if_pos c']
        rcases h.oin k (sk k c) with r | ⟨r, _⟩
        · exact .inl r
        · exact .inr (.inr (by have := h.low _ r; omega))
      · rw [if_neg c', lk k' c']
        exact h.apart k k' hkk (sk k c) (sk k' c')
  · rcases List.mem_append.1 hb with q | q
    · split at q
      · simp at q
      · rename_i c; have := fF.resolve_left c; simp at q; omega
    · rcases List.mem_append.1 q with q | q
      · split at q
        · simp at q
        · rename_i c; have := fT.resolve_left c; simp at q; omega
      · have := h.low _ q; have := xall.next; omega
/-- The first ones, with no room behind. -/
theorem cut3 {b : Nat} {s : AV} {L : List Int} (h : Is .i64 H b s L) {n : Nat} (hn : n ≤ L.length) : ∃ s', (∀ G : AH, w_slice (.sl 1) true true G s none (some (.int .i64 n)) (some (.int .i64 n)) = some (.val s' G)) ∧ Is .i64 H b s' (L.take n) := by
  have e0 : ∀ d y : Nat, n ≤ y → bndO d y (some (.int .i64 n)) = some n := fun d y hy => bndA_of .i64 hy
  have e1 : ∀ d y : Nat, bndO d y none = some d := fun _ _ => rfl
  obtain ⟨q, hX⟩ | ⟨o, c, ex, rfl, h1, h2⟩ := h.ex
  · have hL : L = [] := List.map_eq_nil_iff.1 hX
    subst hL
    obtain rfl : n = 0 := by simpa using hn
    rcases q with rfl | ⟨b', o', rfl⟩
    · exact ⟨.slice none 0 0 true, fun G => rfl, ⟨.inl ⟨.inl rfl, rfl⟩⟩⟩
    · exact ⟨.tail b' o', fun G => rfl, ⟨.inl ⟨.inr ⟨b', o', rfl⟩, rfl⟩⟩⟩
  · have hl : (nums .i64 L).length = L.length := by simp
    refine ⟨.slice (some (b, o)) n n true, fun G => ?_, ⟨.inr ⟨o, n, true, ?_, ?_, ?_⟩⟩⟩
    · have e3 : br (Nat.beq n 0) (some (b, o)) (moveP (Nat.mul 0 1) (some (b, o))) = some (b, o) := by
        cases Nat.beq n 0 <;> rfl
      simp only [w_slice, sliceA, Bool.not_true, Bool.and_false, br_false, val_mk, bndsTo, e0 c c (by omega), e0 _ n (Nat.le_refl _), ob_some, e1, Bool.true_or, br_true, e3]
      rfl
    · rw [show (nums .i64 (L.take n)).length = n by simp; omega]
    · have := SlAt.drop h1 0 n
      rw [Nat.zero_mul, Nat.add_zero, List.drop_zero, ← List.map_take] at this
      exact this
    · simp; omega
theorem ints_el : elT PP 54 = some (1, [.slice none 0 0 true]) := by kernel_rfl
theorem bs_ints2 {s1 s2 : AV} (h1 : SlK s1) (h2 : SlK s2) (b : Nat) : w_buildSlice PP 54 2 H [(0, s1), (1, s2)] (some b) = some (.val (.slice (some (b, 0)) 2 2 true) (H.put b (some (.cells 54 [s1, s2])))) := by
  have q1 : Nat.ble (2 * 1) 16777216 = true := rfl
  have q2 : fillA (fun i => some (i * 1, 1)) [(0, s1), (1, s2)] (reps 2 [AV.slice none 0 0 true]) = some [s1, s2] := by
    rcases h1 with rfl | ⟨_, _, rfl⟩ | ⟨_, _, _, _, _, rfl⟩ <;> rcases h2 with rfl | ⟨_, _, rfl⟩ | ⟨_, _, _, _, _, rfl⟩ <;> rfl
  have q3 : allB (fun x : Nat × AV => allB AV.one x.2.parts) [(0, s1), (1, s2)] = true := by
    rcases h1 with rfl | ⟨_, _, rfl⟩ | ⟨_, _, _, _, _, rfl⟩ <;> rcases h2 with rfl | ⟨_, _, rfl⟩ | ⟨_, _, _, _, _, rfl⟩ <;> rfl
  simp only [w_buildSlice, oBuildSlice, ints_el, q1, q2, q3, br_true, val_mk, ob_some, newSlice, newTo_some_eq]
theorem PlM.skip {fl : List Nat} {p m Bf : Nat} {sf : AV} {M : Me} {bl : Int → Nat} {s : PS} (h : PlM Q H fl p m Bf sf M bl s none) (o : Int) : PlM Q H fl p m Bf sf M bl s (some o) :=
  ⟨h.hp, h.hm, h.nd, h.key, h.fr, fun k _ => h.own k (by simp), h.pin, h.min, h.pm, h.fin, fun k _ => h.oin k (by simp), fun k k' q _ _ => h.apart k k' q (by simp) (by simp), h.low⟩
theorem poolSize_wp {fl : List Nat} {p : Nat} {s : PS} {o b : Int} (h : Pl Q H fl p s) (hQ : Q o) (hF : s.free.length ≤ 1000) (hO : (s.of o).length ≤ 1000) (hb : b ≤ 9223372036854775807) (K : AV → AH → Prop)
    (hK : ∀ H' fl', Ext fl H H' → (∀ b ∈ fl', b ∈ fl ∨ H.next ≤ b) → Pl Q H' fl' p (sizeP s o b).1 → K (.int .i64 (sizeP s o b).2) H') : CC.call 122 [.ptr (some (p, 0)), .int .i64 o, .int .i64 b] H K := by
  refine m_pool_Pool_Size_ok _ _ _ _ _ ?_
  unfold m_pool_Pool_Size m_pool_Pool_Sizet
  have hpl := h
  obtain ⟨m, Bf, sf, M, bl, h⟩ := h
  obtain ⟨clk, hm, hst⟩ := h.hm
  rw [eq_pool, outP_val, condP_false]
  unfold m_pool_Pool_Sizett
  rw [w_nil_ptr, outP_val, w_fieldAddr_ptr, outP_val, Nat.zero_add, h.ldm, outP_val, w_look int_un ints_zero hm, outP_val]
  have same : ∀ r : PS × Int, sizeP s o b = r → r.1 = s → K (.int .i64 r.2) H := fun r e q => by
    have := hK H fl (Ext.refl _ _) (fun b hb => .inl hb)
    rw [e, q] at this
    exact this hpl
  have ho := h.own o (by simp)
  have hoin := h.oin o (by simp)
  unfold m_pool_Pool_Sizettt
  rw [w_lss, outP_val]
  by_cases c1 : b < 0
  · rw [decide_eq_true c1, condP_true]
    exact same (s, 2) (by unfold sizeP; rw [if_pos c1]) rfl
  rw [decide_eq_false c1, condP_false, ho.is.len ints_sl, outP_val, w_sub_in (by omega) (by omega), outP_val, w_nil_ptr, outP_val, w_fieldAddr_ptr, outP_val, Nat.add_zero, h.ldf H, outP_val, h.fr.len ints_sl, outP_val, w_gtr, outP_val]
  by_cases c2 : (s.free.length : Int) < b - ((s.of o).length : Int)
  · rw [decide_eq_true c2, condP_true]
    exact same (s, 6) (by unfold sizeP; rw [if_neg c1, if_pos c2]) rfl
  rw [decide_eq_false c2, condP_false, ho.is.len ints_sl, outP_val, w_gtr, outP_val]
  have hpn := h.low _ h.pin
  by_cases c3 : ((s.of o).length : Int) < b
  · have es : sizeP s o b = (⟨sortZ (s.free.drop (b - ((s.of o).length : Int)).toNat), updP s.of o (sortZ (s.of o ++ s.free.take (b - ((s.of o).length : Int)).toNat))⟩, 0) := by unfold sizeP; rw [if_neg c1, if_neg c2, if_pos c3]
    rw [decide_eq_true c3, condP_true, ho.is.len ints_sl, outP_val, w_sub_in (by omega) (by omega), outP_val]
    obtain ⟨k, hk⟩ : ∃ k : Nat, b - ((s.of o).length : Int) = k := ⟨_, (Int.toNat_of_nonneg (by omega)).symm⟩
    rw [hk, Int.toNat_natCast] at es
    rw [hk]
    have hkl : k ≤ s.free.length := by omega
    obtain ⟨s1, a1, a2⟩ := h.fr.cut k hkl
    rw [w_nil_ptr, outP_val, w_fieldAddr_ptr, outP_val, Nat.add_zero, h.ldf H, outP_val, a1, outP_val]
    -- has, with more
    obtain ⟨Bh, hBh, hoB⟩ : ∃ Bh, (Bh = bl o ∧ Bh ∈ fl ∧ Bh ≠ p ∧ Bh ≠ m ∧ (s.free = [] ∨ Bf ≠ Bh) ∧ lookM nilS M o ≠ nilS ∨ Bh = H.next) ∧ Os 3 .i64 H Bh (lookM nilS M o) (s.of o) := by
      by_cases q : lookM nilS M o = nilS
      · refine ⟨H.next, .inr rfl, ?_⟩
        rw [q] at ho ⊢
        rw [os_nilS ho]; exact os_nil _ _ _
      · obtain ⟨r1, r2, r3, r4⟩ := hoin.resolve_left q
        exact ⟨bl o, .inl ⟨rfl, r1, r2, r3, r4, q⟩, ho⟩
    obtain ⟨s2, H2, B2, e1, x2, e3, o2⟩ := Own.append (by_ := 8) hoB a2 (by omega) (by simp only [List.length_map, List.length_take]; omega)
    rw [← List.map_append] at o2
    have n2 := x2.next
    have pB : Bh ≠ p := by rcases hBh with ⟨_, _, q, _⟩ | q <;> omega
    have mB : Bh ≠ m := by have := h.low _ h.min; rcases hBh with ⟨_, _, _, q, _⟩ | q <;> omega
    have hp2 : H2.get p = _ := x2.get hpn (by simp; exact fun q => pB q.symm) h.hp
    have fr2 : Is .i64 H2 Bf sf s.free := Sl.mono' h.fr x2 fun q => by
      simp at q
      rcases h.fin with r | ⟨r, _⟩
      · rw [r]; rfl
      · have := h.low _ r
        rcases hBh with ⟨q1, _, _, _, q2, _⟩ | q1
        · rcases q2 with q2 | q2
          · rw [q2]; rfl
          · exact absurd q q2
        · omega
    have ldf2 : w_load none H2 (.ptr (some (p, 0))) = some (.val sf H2) := by
      rw [w_load_c, hp2, ldV_cells, show ([sf, .map (some m)] : List AV)[0]? = some sf from rfl, ob_some, (Sl.facts h.fr).2.1, vO_some]
    obtain ⟨s3, b1, b2⟩ := Sl.cut fr2 (hasHi := false) (some (.i64, k)) none (show k ≤ (nums .i64 s.free).length by simpa using hkl) (Nat.le_refl _)
    have eb : (List.drop (loN 0 (some (IntKind.i64, k))) (nums .i64 s.free)).take (loN (nums .i64 s.free).length none - loN 0 (some (IntKind.i64, k))) = nums .i64 (s.free.drop k) := by
      show ((nums .i64 s.free).drop k).take ((nums .i64 s.free).length - k) = _
      rw [← List.map_drop, List.take_of_length_le (by simp)]
    rw [eb] at b2
    have b1' : ∀ G : AH, w_slice (.sl 1) false false G sf (some (.int .i64 k)) none none = some (.val s3 G) := b1
    obtain ⟨g1, _, g4, _⟩ := Sl.facts b2
    rw [e1, outP_val, w_nil_ptr, outP_val, w_fieldAddr_ptr, outP_val, Nat.add_zero, ldf2, outP_val, b1', outP_val, w_nil_ptr, outP_val, w_fieldAddr_ptr, outP_val, Nat.add_zero, w_store_c, hp2, stN_fst _ _ _ _ _ g1, outP_skip]
    have x3 : Ext [p] H2 (H2.put p (some (.cells 207 [s3, .map (some m)]))) := (Ext.refl _ _).put (.inr (by simp)) _
    have xx : Ext fl H (H2.put p (some (.cells 207 [s3, .map (some m)]))) := by
      refine (x2.mono fun q hq hlt => ?_).trans (x3.mono fun q hq hlt => ?_)
      · simp at hq; subst hq
        rcases hBh with ⟨_, q, _⟩ | q
        · exact q
        · omega
      · simp at hq; subst hq; exact h.pin
    have n3 : (H2.put p (some (.cells 207 [s3, .map (some m)]))).next = H2.next := AH.next_put _ _ _
    have hm3 : (H2.put p (some (.cells 207 [s3, .map (some m)]))).get m = _ := x3.get (by have := h.low _ h.min; omega) (by simp; exact h.pm) (x2.get (h.low _ h.min) (by simp; exact fun q => mB q.symm) hm)
    have pBf : s.free = [] ∨ Bf ≠ p := by rcases h.fin with r | ⟨_, r, _⟩; exact .inl r; exact .inr r
    have hq : PlM Q (H2.put p (some (.cells 207 [s3, .map (some m)]))) fl p m Bf s3 M bl ⟨s.free.drop k, s.of⟩ (some o) := by
      refine ⟨get_put_same _ _, ⟨clk, hm3, hst⟩, h.nd, h.key, Sl.mono' b2 x3 fun q => ?_, fun k' hk' => ?_, h.pin, h.min, h.pm, ?_, fun k' hk' => ?_, fun k1 k2 q _ _ => h.apart k1 k2 q (by simp) (by simp), fun q hq => by have := h.low _ hq; omega⟩
      · rcases pBf with r | r
        · show nums .i64 (s.free.drop k) = []
          rw [r]; simp
        · simp at q; exact absurd q r
      · have hne : k' ≠ o := fun q => hk' (by rw [q])
        have ok := h.own k' (by simp)
        by_cases z : lookM nilS M k' = nilS
        · rw [z] at ok ⊢
          rw [show (PS.mk (s.free.drop k) s.of).of k' = s.of k' from rfl, os_nilS ok]; exact os_nil _ _ _
        · obtain ⟨r, r1, r2, _⟩ := (h.oin k' (by simp)).resolve_left z
          refine Own.mono (Own.mono ok x2 ?_) x3 (by simp; exact r1)
          have := h.low _ r
          simp
          rcases hBh with ⟨q1, _, _, _, _, q2⟩ | q1
          · rcases h.apart k' o hne (by simp) (by simp) with w | w | w
            · exact absurd w z
            · exact absurd w q2
            · rw [q1]; exact w
          · omega
      · show s.free.drop k = [] ∨ _
        rcases h.fin with r | r
        · left; rw [r]; simp
        · exact .inr r
      · rcases h.oin k' (by simp) with r | ⟨r, r1, r2, r3⟩
        · exact .inl r
        · refine .inr ⟨r, r1, r2, ?_⟩
          show s.free.drop k = [] ∨ _
          rcases r3 with r3 | r3
          · left; rw [r3]; simp
          · exact .inr r3
    have o2' : Is .i64 H2 B2 s2 (s.of o ++ s.free.take k) := Own.sl o2
    have pB2 : B2 ≠ p := by rcases e3 with q | q <;> omega
    refine tail_wp hq hQ (Sl.mono' o2' x3 fun q => by simp at q; exact absurd q pB2) (.inr pB2) (by simp; omega) (by simp; omega) K fun H' fl' x4 hfl hpl' => ?_
    rw [es] at hK
    refine hK H' fl' (xx.trans (x4.mono fun q hq hlt => ?_)) (fun q hq => ?_) hpl'
    · simp at hq
      rcases hq with rfl | rfl
      · exact h.pin
      · exact h.min
    · rcases hfl q hq with r | r
      · exact .inl r
      · exact .inr (by omega)
  · have es : sizeP s o b = (⟨sortZ (s.free ++ (s.of o).drop b.toNat), updP s.of o (sortZ ((s.of o).take b.toNat))⟩, 0) := by unfold sizeP; rw [if_neg c1, if_neg c2, if_neg c3]
    rw [decide_eq_false c3, condP_false]
    obtain ⟨k, hk⟩ : ∃ k : Nat, b = k := ⟨_, (Int.toNat_of_nonneg (by omega)).symm⟩
    subst hk
    rw [Int.toNat_natCast] at es
    have hkl : k ≤ (s.of o).length := by omega
    have gp : (H.more 1).get p = _ := (get_more _ _ _).trans h.hp
    have ldm1 : w_load none (H.more 1) (.ptr (some (p, 0))) = some (.val sf (H.more 1)) := by
      rw [w_load_c, gp, ldV_cells, show ([sf, .map (some m)] : List AV)[0]? = some sf from rfl, ob_some, (Sl.facts h.fr).2.1, vO_some]
    obtain ⟨s3, b1, b2⟩ := Sl.cut ho.is (hasHi := false) (some (.i64, k)) none (show k ≤ (nums .i64 (s.of o)).length by simpa using hkl) (Nat.le_refl _)
    have eb : (List.drop (loN 0 (some (IntKind.i64, k))) (nums .i64 (s.of o))).take (loN (nums .i64 (s.of o)).length none - loN 0 (some (IntKind.i64, k))) = nums .i64 ((s.of o).drop k) := by
      show ((nums .i64 (s.of o)).drop k).take ((nums .i64 (s.of o)).length - k) = _
      rw [← List.map_drop, List.take_of_length_le (by simp)]
    rw [eb] at b2
    have b1' : ∀ G : AH, w_slice (.sl 1) false false G (lookM nilS M o) (some (.int .i64 k)) none none = some (.val s3 G) := b1
    rw [w_nil_ptr, outP_val, w_fieldAddr_ptr, outP_val, Nat.add_zero, ldm1, outP_val, b1', outP_val, bs_ints2 (Sl.slk h.fr) (Sl.slk b2), outP_val]
    have x1 : Ext [] H ((H.more 1).put (Nat.add H.next 0) (some (.cells 54 [sf, s3]))) := ((Ext.refl _ _).more 1).put (.inl (Nat.le_refl _)) _
    have n1 : ((H.more 1).put (Nat.add H.next 0) (some (.cells 54 [sf, s3]))).next = H.next + 1 := by rw [AH.next_put, next_more]
    have o1 : Own ((H.more 1).put (Nat.add H.next 0) (some (.cells 54 [sf, s3]))) 54 1 H.next (.slice (some (H.next, 0)) 2 2 true) (vrow [(sf, Bf, s.free), (s3, bl o, (s.of o).drop k)]) := by
      obtain ⟨k1, _, _, k2⟩ := Sl.facts h.fr
      obtain ⟨k3, _, _, k4⟩ := Sl.facts b2
      exact ⟨.inr ⟨0, 2, true, _, rfl, get_put_same _ _, Nat.le_refl _, Nat.le_refl _, fun q => (by cases q), rfl, by rw [n1]; omega⟩, by simp, by simp [k2, k4], by simp [k1, k3]⟩
    rw [outP_enter]
    refine concat_wp o1.sl (fun y hy => ?_) (by simp) (fun y hy => ?_) _ fun H2 sC BC x2 hBC oC => ?_
    · simp only [List.mem_cons, List.not_mem_nil, or_false] at hy
      rcases hy with rfl | rfl
      · exact Sl.mono h.fr x1 (by simp)
      · exact Sl.mono b2 x1 (by simp)
    · simp only [List.mem_cons, List.not_mem_nil, or_false] at hy
      rcases hy with rfl | rfl
      · exact hF
      · show ((s.of o).drop k).length ≤ 1000
        rw [List.length_drop]; omega
    have eC : (List.map (fun y : Vq => y.2.2) [(sf, Bf, s.free), (s3, bl o, (s.of o).drop k)]).flatten = s.free ++ (s.of o).drop k := by simp
    rw [eC] at oC
    have x12 := x1.trans x2
    have n2 := x2.next
    have hp2 : H2.get p = _ := x12.get hpn (by simp) h.hp
    obtain ⟨g1, _, _, _⟩ := Own.facts oC
    rw [w_nil_ptr, outP_val, w_fieldAddr_ptr, outP_val, Nat.add_zero, w_store_c, hp2, stN_fst _ _ _ _ _ g1, outP_skip]
    have x3 : Ext [p] H2 (H2.put p (some (.cells 207 [sC, .map (some m)]))) := (Ext.refl _ _).put (.inr (by simp)) _
    have n3 : (H2.put p (some (.cells 207 [sC, .map (some m)]))).next = H2.next := AH.next_put _ _ _
    obtain ⟨s4, c1', c2'⟩ := cut3 ho.is hkl
    rw [c1', outP_val]
    have hml := h.low _ h.min
    have hm3 : (H2.put p (some (.cells 207 [sC, .map (some m)]))).get m = _ := x3.get (by omega) (by simp; exact h.pm) (x12.get hml (by simp) hm)
    have dC : Decidable (sC = nilS) := Classical.propDecidable _
    have fC : sC = nilS ∨ BC < H2.next := os_low oC
    have oC3 := Own.mono oC x3 (by simp; omega)
    have hq : PlM Q (H2.put p (some (.cells 207 [sC, .map (some m)]))) ((if sC = nilS then [] else [BC]) ++ fl) p m BC sC M bl ⟨s.free ++ (s.of o).drop k, s.of⟩ (some o) := by
      refine ⟨get_put_same _ _, ⟨clk, hm3, hst⟩, h.nd, h.key, Own.sl oC3, fun k' _ => ?_, by simp [h.pin], by simp [h.min], h.pm, ?_, fun k' _ => ?_, fun k1 k2 q _ _ => h.apart k1 k2 q (by simp) (by simp), fun q hq => ?_⟩
      · have ok := h.own k' (by simp)
        rcases h.oin k' (by simp) with r | ⟨r, r1, _, _⟩
        · rw [r] at ok ⊢
          rw [show (PS.mk (s.free ++ (s.of o).drop k) s.of).of k' = s.of k' from rfl, os_nilS ok]; exact os_nil _ _ _
        · exact Own.mono (Own.mono ok x12 (by simp)) x3 (by simp; exact r1)
      · by_cases c : sC = nilS
        · left
          rw [c] at oC
          exact os_nilS oC
        · right
          exact ⟨by rw [if_neg c]; simp, by omega, by omega⟩
      · rcases h.oin k' (by simp) with r | ⟨r, r1, r2, _⟩
        · exact .inl r
        · exact .inr ⟨by simp [r], r1, r2, .inr (by have := h.low _ r; omega)⟩
      · rcases List.mem_append.1 hq with q | q
        · split at q
          · simp at q
          · rename_i c; have := fC.resolve_left c; simp at q; omega
        · have := h.low _ q; omega
    have c3' : Is .i64 (H2.put p (some (.cells 207 [sC, .map (some m)]))) (bl o) s4 ((s.of o).take k) := Sl.mono' (Sl.mono c2' x12 (by simp)) x3 fun q => by
      simp at q
      rcases hoin with r | ⟨_, r, _⟩
      · rw [r] at ho
        rw [os_nilS ho]; simp
      · exact absurd q r
    have hBo : (s.of o).take k = [] ∨ bl o ≠ p := by
      rcases hoin with r | ⟨_, r, _⟩
      · rw [r] at ho
        rw [os_nilS ho]; simp
      · exact .inr r
    refine tail_wp hq hQ c3' hBo (by simp; omega) (by simp; omega) K fun H' fl' x4 hfl hpl' => ?_
    rw [es] at hK
    refine hK H' fl' (((x12.mono (by simp)).trans (x3.mono fun q hq hlt => by simp at hq; subst hq; exact h.pin)).trans (x4.mono fun q hq hlt => ?_)) (fun q hq => ?_) hpl'
    · simp at hq
      rcases hq with rfl | rfl
      · exact h.pin
      · exact h.min
    · rcases hfl q hq with r | r
      · rcases List.mem_append.1 r with r | r
        · split at r
          · simp at r
          · simp at r; exact .inr (by omega)
        · exact .inl r
      · exact .inr (by omega)
end
end Go.Ab
/- A pool in a law: what is there beside it stays. -/
namespace Go.Ab
noncomputable section
open Go.Proofs
set_option maxRecDepth 10000
variable {H H' : AH} {Q : Int → Prop}

theorem up_len : ∀ {L : List Int} {a N : Int}, Up L → (∀ x ∈ L, a ≤ x ∧ x < N) → (L.length : Int) ≤ max (N - a) 0
  | [], _, _, _, _ => by simp; omega
  | x :: L, a, N, h, hx => by
    have h' := List.pairwise_cons.1 h
    have := hx x (by simp)
    have ih := up_len (a := x + 1) (N := N) h'.2 fun y hy => ⟨by have := h'.1 y hy; omega, (hx y (by simp [hy])).2⟩
    rw [List.length_cons]; omega
theorem PInv.lenF {N : Nat} {s : PS} (h : PInv N s) : s.free.length ≤ N := by
  have := up_len (a := 0) (N := N) h.upF h.inF
  omega
theorem PInv.lenO {N : Nat} {s : PS} (h : PInv N s) (o : Int) : (s.of o).length ≤ N := by
  have := up_len (a := 0) (N := N) (h.upO o) (h.inO o)
  omega
structure Plx (Q : Int → Prop) (H0 H : AH) (p : Nat) (s : PS) : Prop where
  ext : Ext [] H0 H
  ex : ∃ fl, (∀ b ∈ fl, H0.next ≤ b) ∧ Pl Q H fl p s
theorem Plx.mono {H0 : AH} {p : Nat} {s : PS} (h : Plx Q H0 H p s) (e : Ext [] H H') : Plx Q H0 H' p s := by
  obtain ⟨fl, h1, h2⟩ := h.ex
  exact ⟨h.ext.trans e, fl, h1, h2.mono e (by simp)⟩
theorem new_plx (n : Int) (K : AV → AH → Prop) (hK : ∀ H' p, Plx Q H H' p (startP (min (max n 0) 1000).toNat) → K (.ptr (some (p, 0))) H') : CC.call 121 [.int .i64 n] H K :=
  poolNew_wp n K fun H' fl p x h1 h2 => hK H' p ⟨x, fl, h1, h2⟩
theorem size_plx {H0 : AH} {p N : Nat} {s : PS} {o b : Int} (h : Plx Q H0 H p s) (hQ : Q o) (hi : PInv N s) (hN : N ≤ 1000) (hb : b ≤ 9223372036854775807) (K : AV → AH → Prop) (hK : ∀ H', Plx Q H0 H' p (sizeP s o b).1 → K (.int .i64 (sizeP s o b).2) H') :
    CC.call 122 [.ptr (some (p, 0)), .int .i64 o, .int .i64 b] H K := by
  obtain ⟨fl, h1, h2⟩ := h.ex
  have := hi.lenF
  have := hi.lenO o
  refine poolSize_wp h2 hQ (by omega) (by omega) hb K fun H' fl' e hfl hp => hK H' ⟨?_, fl', fun q hq => ?_, hp⟩
  · exact ((h.ext.mono (m' := fl) (by simp)).trans e).mono fun q hq hlt => by have := h1 q hq; omega
  · have := h.ext.next
    rcases hfl q hq with r | r
    · exact h1 q r
    · omega
theorem of_plx {H0 : AH} {p N : Nat} {s : PS} (h : Plx Q H0 H p s) (hi : PInv N s) (hN : N ≤ 1000) (o : Int) (K : AV → AH → Prop) (hK : ∀ H' s' B, Ext [] H H' → Plx Q H0 H' p s → H.next ≤ B → Os 3 .i64 H' B s' (s.of o) → K s' H') :
    CC.call 375 [.ptr (some (p, 0)), .int .i64 o] H K := by
  obtain ⟨fl, h1, h2⟩ := h.ex
  have := hi.lenO o
  exact poolOf_wp h2 o (by omega) K fun H' s' B e hB os => hK H' s' B e (h.mono e) hB os
theorem free_plx {H0 : AH} {p : Nat} {s : PS} (h : Plx Q H0 H p s) (K : AV → AH → Prop) (hK : K (.int .i64 (s.free.length : Int)) H) : CC.call 52 [.ptr (some (p, 0))] H K := by
  obtain ⟨fl, h1, h2⟩ := h.ex
  exact poolFree_wp h2 K hK
theorem Hs.at1 {b : Nat} {s : AV} {L : List (Int × Int)} (h : Hs H b s L) {j : Nat} (hj : j < L.length) : ∃ o, (∀ G : AH, w_indexAddr (.sl 2) G s (.int .i64 j) = some (.val (.ptr (some (b, o))) G)) ∧ b < H.next ∧ ldV (H.get b) o = some (.int .i64 L[j].1) ∧ ldV (H.get b) (o + 1) = some (.int .i64 L[j].2) := by
  obtain ⟨o, h1, h2, h3⟩ := Sl.at h (j := j) (by simpa using hj) .i64
  have e : (L.map hitL)[j]'(by simpa using hj) = hitL L[j] := by simp
  rw [e] at h3
  exact ⟨o, h1, h2, ldV_of (h3 0 _ rfl) rfl rfl, ldV_of (h3 1 _ rfl) rfl rfl⟩
end
end Go.Ab
