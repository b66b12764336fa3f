/- The best of some: the first ones of all, in the order. -/
import Derived.Test.YtoafnnphjbdedaaGreatDoorMo
namespace Go.Ab

abbrev Uni (L : List (Int × Int)) : Prop := (L.map fun x => x.1).Nodup
def insL (L : List (Int × Int)) (h : Int × Int) : List (Int × Int) := L.take (posL L h) ++ h :: L.drop (posL L h)
def ordL (L : List (Int × Int)) : List (Int × Int) := L.foldl insL []
theorem insL_perm (L : List (Int × Int)) (h : Int × Int) : (insL L h).Perm (h :: L) := by
  unfold insL
  have := List.perm_middle (a := h) (l₁ := L.take (posL L h)) (l₂ := L.drop (posL L h))
  rw [List.take_append_drop] at this
  exact this
theorem foldl_ins_perm : ∀ (L A : List (Int × Int)), (L.foldl insL A).Perm (A ++ L)
  | [], A => by simp
  | h :: L, A => (foldl_ins_perm L (insL A h)).trans (((insL_perm A h).append_right L).trans List.perm_middle.symm)
theorem ordL_perm (L : List (Int × Int)) : (ordL L).Perm L := foldl_ins_perm L []
theorem uni_mid {A L : List (Int × Int)} {h : Int × Int} (hu : Uni (A ++ h :: L)) : ∀ x ∈ A, x.1 ≠ h.1 := by
  intro x hx
  have hu : ((A ++ h :: L).map fun x => x.1).Nodup := hu
  rw [List.map_append] at hu
  exact (List.nodup_append.1 hu).2.2 x.1 (List.mem_map.2 ⟨x, hx, rfl⟩) h.1 (by simp)
theorem foldl_ins_sorted : ∀ (L A : List (Int × Int)), Sorted A → Uni (A ++ L) → Sorted (L.foldl insL A)
  | [], A, h, _ => h
  | h :: L, A, hs, hu => by
    refine foldl_ins_sorted L (insL A h) (insert_sorted hs (uni_mid hu)) ?_
    exact ((((insL_perm A h).append_right L).trans List.perm_middle.symm).map fun x => x.1).nodup_iff.2 hu
theorem ordL_sorted {L : List (Int × Int)} (h : Uni L) : Sorted (ordL L) := foldl_ins_sorted L [] List.Pairwise.nil h
theorem lessB_irrefl (x : Int × Int) : lessB x x = false := by
  cases h : lessB x x with
  | false => rfl
  | true => rw [lessB_iff] at h; omega
theorem lessB_asymm {x y : Int × Int} (h : lessB x y = true) : lessB y x = false := by
  cases k : lessB y x with
  | false => rfl
  | true => rw [lessB_iff] at h k; omega
theorem sorted_unique {L L' : List (Int × Int)} (hp : L.Perm L') (h : Sorted L) (h' : Sorted L') : L = L' :=
  List.Perm.eq_of_pairwise (le := fun x y => lessB x y = true) (fun a b _ _ h1 h2 => by rw [lessB_asymm h1] at h2; cases h2) h h' hp
theorem ordL_eq {L L' : List (Int × Int)} (hp : L.Perm L') (h : Uni L) : ordL L = ordL L' :=
  sorted_unique ((ordL_perm L).trans (hp.trans (ordL_perm L').symm)) (ordL_sorted h) (ordL_sorted ((hp.map fun x => x.1).nodup_iff.1 h))
theorem ordL_of_sorted {L : List (Int × Int)} (h : Sorted L) (hu : Uni L) : ordL L = L := sorted_unique (ordL_perm L) (ordL_sorted hu) h
theorem sorted_uni {L : List (Int × Int)} (hu : Uni L) {A : List (Int × Int)} (h : A.Sublist L) : Uni A := List.Nodup.sublist (h.map fun x => x.1) hu

theorem takeWhile_take' {α : Type} (p : α → Bool) : ∀ (L : List α) (k : Nat), ((L.take k).takeWhile p).length = min k (L.takeWhile p).length
  | [], k => by simp
  | x :: L, 0 => by simp
  | x :: L, k + 1 => by
    rw [List.take_succ_cons, List.takeWhile_cons, List.takeWhile_cons]
    cases p x with
    | true => simp only [if_true, List.length_cons, takeWhile_take' p L k]; omega
    | false => simp
theorem posL_take (L : List (Int × Int)) (h : Int × Int) (k : Nat) : posL (L.take k) h = min k (posL L h) := takeWhile_take' _ L k

theorem put_take {k : Nat} {O : List (Int × Int)} {h : Int × Int} (hid : ∀ x ∈ O, x.1 ≠ h.1) : (putL k (O.take k) h).1 = (insL O h).take k := by
  have hany : ¬ (O.take k).any (fun x => decide (x.1 = h.1)) = true := by
    intro q
    obtain ⟨x, hx, hx'⟩ := List.any_eq_true.1 q
    exact hid x (List.mem_of_mem_take hx) (by simpa using hx')
  have hle := posL_le O h
  unfold putL
  rw [if_neg hany, posL_take]
  by_cases c : k ≤ posL O h
  · rw [if_pos (by omega)]
    unfold insL
    rw [List.take_append_of_le_length (by rw [List.length_take]; omega), List.take_take, Nat.min_eq_left c]
  · rw [if_neg (by omega), Nat.min_eq_right (by omega)]
    unfold insL
    generalize posL O h = p at *
    show (List.take p (O.take k) ++ h :: List.drop p (O.take k)).take k = (O.take p ++ h :: O.drop p).take k
    rw [List.take_take, Nat.min_eq_left (by omega), List.take_append, List.take_append, List.length_take, Nat.min_eq_left (by omega)]
    congr 1
    obtain ⟨s, hs⟩ : ∃ s, k - p = s + 1 := ⟨k - p - 1, by omega⟩
    rw [hs, List.take_succ_cons, List.take_succ_cons, List.drop_take, hs, List.take_take]
    congr 2
    omega
theorem bestL_ord {k : Nat} {L : List (Int × Int)} (hu : Uni L) : bestL k L = (ordL L).take k := by
  have key : ∀ (L A : List (Int × Int)), Uni (A ++ L) → L.foldl (fun a h => (putL k a h).1) (A.take k) = (L.foldl insL A).take k := by
    intro L
    induction L with
    | nil => intro A _; rfl
    | cons h L ih =>
      intro A hu
      rw [List.foldl_cons, List.foldl_cons, put_take (uni_mid hu)]
      exact ih _ (((((insL_perm A h).append_right L).trans List.perm_middle.symm).map fun x => x.1).nodup_iff.2 hu)
  have := key L [] hu
  rw [List.take_nil] at this
  exact this

/-- How many are better than the one at a place: as many as there are places ahead of it. -/
theorem count_less {L : List (Int × Int)} (hs : Sorted L) {i : Nat} (hi : i < L.length) : L.countP (fun h => lessB h L[i]) = i := by
  have e : L = L.take i ++ L[i] :: L.drop (i + 1) := by rw [← List.drop_eq_getElem_cons hi, List.take_append_drop]
  have hs' := hs
  rw [e] at hs'
  have ⟨_, s2, s3⟩ := List.pairwise_append.1 hs'
  have ⟨s4, _⟩ := List.pairwise_cons.1 s2
  generalize hx : L[i] = x at *
  rw [e, List.countP_append, List.countP_cons, lessB_irrefl]
  have h1 : (L.take i).countP (fun h => lessB h x) = (L.take i).length := List.countP_eq_length.2 fun y hy => s3 y hy x (by simp)
  have h2 : (L.drop (i + 1)).countP (fun h => lessB h x) = 0 := List.countP_eq_zero.2 fun y hy => by rw [lessB_asymm (s4 y hy)]; simp
  rw [h1, h2, List.length_take, Nat.min_eq_left (Nat.le_of_lt hi)]
  simp
theorem best_count {k : Nat} {L L' : List (Int × Int)} (hu : Uni L) (hp : L.Perm L') {i : Nat} (hi : i < (bestL k L).length) : L'.countP (fun h => lessB h (bestL k L)[i]) = i := by
  have e := bestL_ord (k := k) hu
  have hi' : i < (ordL L).length := by rw [e, List.length_take] at hi; omega
  have hx : (bestL k L)[i] = (ordL L)[i] := by simp only [e, List.getElem_take]
  rw [hx, ← (((ordL_perm L).trans hp).countP_eq _)]
  exact count_less (ordL_sorted hu) hi'
theorem best_perm {k : Nat} {L L' : List (Int × Int)} (hu : Uni L) (hp : L.Perm L') : bestL k L = bestL k L' := by
  rw [bestL_ord hu, bestL_ord ((hp.map fun x => x.1).nodup_iff.1 hu), ordL_eq hp hu]
theorem best_len {k : Nat} {L : List (Int × Int)} (hu : Uni L) : (bestL k L).length = min k L.length := by
  rw [bestL_ord hu, List.length_take, (ordL_perm L).length_eq]

/-! The best of the best of two. -/
/-- Who is among the first k: fewer than k are ahead of it. -/
theorem mem_take_iff {O : List (Int × Int)} (hs : Sorted O) {k : Nat} {x : Int × Int} : x ∈ O.take k ↔ x ∈ O ∧ O.countP (fun h => lessB h x) < k := by
  constructor
  · intro h
    obtain ⟨i, hi, rfl⟩ := List.mem_iff_getElem.1 h
    rw [List.length_take] at hi
    rw [List.getElem_take]
    exact ⟨List.getElem_mem _, by rw [count_less hs (by omega)]; omega⟩
  · rintro ⟨h, hc⟩
    obtain ⟨i, hi, rfl⟩ := List.mem_iff_getElem.1 h
    rw [count_less hs hi] at hc
    exact List.mem_take_iff_getElem.2 ⟨i, by omega, rfl⟩
theorem mem_best_iff {k : Nat} {L : List (Int × Int)} (hu : Uni L) {x : Int × Int} : x ∈ bestL k L ↔ x ∈ L ∧ L.countP (fun h => lessB h x) < k := by
  rw [bestL_ord hu, mem_take_iff (ordL_sorted hu), (ordL_perm L).mem_iff, (ordL_perm L).countP_eq]
theorem best_sub {k : Nat} {L : List (Int × Int)} (hu : Uni L) : ∃ M, (M ++ bestL k L).Perm L := by
  refine ⟨(ordL L).drop k, ?_⟩
  rw [bestL_ord hu]
  exact (List.perm_append_comm.trans (by rw [List.take_append_drop])).trans (ordL_perm L)
theorem count_best {k : Nat} {L : List (Int × Int)} (hu : Uni L) {x : Int × Int} : (bestL k L).countP (fun h => lessB h x) = min k (L.countP fun h => lessB h x) := by
  rw [bestL_ord hu, ← ((ordL_perm L).countP_eq _)]
  have hs := ordL_sorted hu
  generalize ordL L = O at *
  induction O generalizing k with
  | nil => simp
  | cons y O ih =>
    have ⟨h1, h2⟩ := List.pairwise_cons.1 hs
    cases k with
    | zero => simp
    | succ k =>
      rw [List.take_succ_cons, List.countP_cons, List.countP_cons, ih h2]
      cases hy : lessB y x with
      | true => simp
      | false =>
        have h0 : O.countP (fun h => lessB h x) = 0 := List.countP_eq_zero.2 fun z hz => by
          cases hz' : lessB z x with
          | false => simp
          | true => rw [lessB_trans (h1 z hz) hz'] at hy; cases hy
        rw [h0]; simp
theorem best_merge {k : Nat} {X Y : List (Int × Int)} (hu : Uni (X ++ Y)) : bestL k (X ++ Y) = bestL k (bestL k X ++ bestL k Y) := by
  have hX : Uni X := sorted_uni hu (List.sublist_append_left _ _)
  have hY : Uni Y := sorted_uni hu (List.sublist_append_right _ _)
  have hM : Uni (bestL k X ++ bestL k Y) := by
    obtain ⟨A, hA⟩ := best_sub (k := k) hX
    obtain ⟨B, hB⟩ := best_sub (k := k) hY
    have : Uni ((A ++ bestL k X) ++ (B ++ bestL k Y)) := ((hA.append hB).map fun x => x.1).nodup_iff.2 hu
    exact sorted_uni this ((List.sublist_append_right _ _).append (List.sublist_append_right _ _))
  have key : ∀ x, x ∈ bestL k (X ++ Y) ↔ x ∈ bestL k (bestL k X ++ bestL k Y) := by
    intro x
    rw [mem_best_iff hu, mem_best_iff hM, List.mem_append, List.mem_append, List.countP_append, List.countP_append, count_best hX, count_best hY, mem_best_iff hX, mem_best_iff hY]
    constructor
    · rintro ⟨h | h, hc⟩
      · exact ⟨.inl ⟨h, by omega⟩, by omega⟩
      · exact ⟨.inr ⟨h, by omega⟩, by omega⟩
    · rintro ⟨⟨h, h2⟩ | ⟨h, h2⟩, hc⟩
      · exact ⟨.inl h, by omega⟩
      · exact ⟨.inr h, by omega⟩
  have s1 := bestL_sorted k (X ++ Y)
  have s2 := bestL_sorted k (bestL k X ++ bestL k Y)
  refine sorted_unique ?_ s1 s2
  have nd : ∀ {L : List (Int × Int)}, Sorted L → L.Nodup := fun h => h.imp fun {a b} hab e => by subst e; rw [lessB_irrefl] at hab; cases hab
  exact (List.perm_ext_iff_of_nodup (nd s1) (nd s2)).2 key
/-! As the document says it. -/
def posR (L : List (Int × Int)) (h : Int × Int) : Nat := (L.takeWhile fun x => !lessB h x).length
theorem posR_eq {h : Int × Int} : ∀ {L : List (Int × Int)}, (∀ x ∈ L, x.1 ≠ h.1) → posR L h = posL L h
  | [], _ => rfl
  | x :: L, hid => by
    have e : (!lessB h x) = lessB x h := by
      cases q : lessB x h with
      | true => rw [lessB_asymm q]; rfl
      | false => rw [lessB_total (hid x (by simp)) q]; rfl
    have ih := posR_eq (L := L) (h := h) fun y hy => hid y (by simp [hy])
    unfold posR posL at *
    rw [List.takeWhile_cons, List.takeWhile_cons, e]
    cases lessB x h with
    | true => simp only [if_true, List.length_cons, ih]
    | false => rfl
theorem posL_lt {L : List (Int × Int)} {h : Int × Int} {i : Nat} (hi : i < L.length) (hn : lessB L[i] h = false) : posL L h ≤ i := by
  rcases Nat.lt_or_ge i (posL L h) with q | q
  · have := posL_prefix L h L[i] (List.mem_take_iff_getElem.2 ⟨i, by omega, rfl⟩)
    rw [this] at hn; cases hn
  · exact q
/-- Whoever is behind the last one of as many as there may be is not put in. -/
theorem putL_full {k : Nat} {L : List (Int × Int)} {h : Int × Int} (hs : Sorted L) (hk : 0 < L.length) (hl : k ≤ L.length) (hid : ∀ x ∈ L, x.1 ≠ h.1) (hn : lessB h L[L.length - 1] = false) : putL k L h = (L, false) := by
  have hlast : lessB L[L.length - 1] h = true := by
    cases q : lessB L[L.length - 1] h with
    | true => rfl
    | false => rw [lessB_total (hid _ (List.getElem_mem _)) q] at hn; cases hn
  have hall : posL L h = L.length := by
    refine posL_all fun i hi => ?_
    by_cases q : i = L.length - 1
    · subst q; exact hlast
    · exact lessB_trans (List.pairwise_iff_getElem.1 hs i (L.length - 1) hi (by omega) (by omega)) hlast
  unfold putL
  rw [if_neg, if_pos (by omega)]
  intro q
  obtain ⟨x, hx, hx'⟩ := List.any_eq_true.1 q
  exact hid x hx (by simpa using hx')
theorem putL_in {k : Nat} {L : List (Int × Int)} {h : Int × Int} (hk : 0 < k) (hl : L.length ≤ k) (hid : ∀ x ∈ L, x.1 ≠ h.1) (hn : ∀ hk : k ≤ L.length, lessB h (L[L.length - 1]'(by omega)) = true) : putL k L h = ((L.take (posR L h) ++ h :: L.drop (posR L h)).take k, true) := by
  have hp : posL L h < k := by
    have := posL_le L h
    by_cases q : k ≤ L.length
    · have := posL_lt (L := L) (h := h) (i := L.length - 1) (by omega) (lessB_asymm (hn q))
      omega
    · omega
  rw [posR_eq hid]
  unfold putL
  rw [if_neg, if_neg (by omega)]
  intro q
  obtain ⟨x, hx, hx'⟩ := List.any_eq_true.1 q
  exact hid x hx (by simpa using hx')
theorem posR_at {L : List (Int × Int)} {h : Int × Int} {j : Nat} (hj : j ≤ L.length) (hp : ∀ i (hi : i < j), lessB h (L[i]'(by omega)) = false) (hn : ∀ hj : j < L.length, lessB h L[j] = true) : posR L h = j := by
  induction j generalizing L with
  | zero =>
    cases L with
    | nil => rfl
    | cons x L => have := hn (by simp); simp at this; simp [posR, this]
  | succ j ih =>
    cases L with
    | nil => simp at hj
    | cons x L =>
      have h0 := hp 0 (by omega)
      simp at h0
      have := ih (L := L) (by simpa using hj) (fun i hi => by simpa using hp (i + 1) (by omega)) (fun q => by have := hn (by simpa using q); rw [List.getElem_cons_succ] at this; exact this)
      unfold posR at *
      simp only [List.takeWhile_cons, h0, Bool.not_false, if_true, List.length_cons, this]
end Go.Ab
