/- Who is put in where: plain (texts of mine out of Best, Mo and BestLaw, where there are no bests). -/
import Derived.Test.YtjpjmeidpjjgdaaGreatDoorHit
namespace Go.Ab
noncomputable section
open Go.Proofs
set_option maxRecDepth 10000
variable {H H' : AH}

def posL (L : List (Int × Int)) (h : Int × Int) : Nat := (L.takeWhile fun x => lessB x h).length
def putL (k : Nat) (L : List (Int × Int)) (h : Int × Int) : List (Int × Int) × Bool :=
  if L.any (fun x => decide (x.1 = h.1)) = true then (L, false) else if k ≤ posL L h then (L, false) else ((L.take (posL L h) ++ h :: L.drop (posL L h)).take k, true)
theorem posL_le (L : List (Int × Int)) (h : Int × Int) : posL L h ≤ L.length := (List.takeWhile_prefix _).length_le
theorem posL_at {L : List (Int × Int)} {h : Int × Int} {j : Nat} (hj : j < L.length) (hp : ∀ i (hi : i < j), lessB (L[i]'(by omega)) h = true) (hn : lessB L[j] h = false) : posL L h = j := by
  induction j generalizing L with
  | zero =>
    cases L with
    | nil => cases hj
    | cons x L => simp [posL, List.takeWhile_cons]; simpa using hn
  | succ j ih =>
    cases L with
    | nil => cases hj
    | cons x L =>
      have h0 : lessB x h = true := hp 0 (by omega)
      have := ih (L := L) (by simpa using hj) (fun i hi => hp (i + 1) (by omega)) (by simpa using hn)
      simp only [posL, List.takeWhile_cons, h0, if_true, List.length_cons] at this ⊢
      omega
theorem posL_all {L : List (Int × Int)} {h : Int × Int} (hp : ∀ i (hi : i < L.length), lessB L[i] h = true) : posL L h = L.length := by
  induction L with
  | nil => rfl
  | cons x L ih =>
    have h0 : lessB x h = true := hp 0 (by simp)
    have := ih fun i hi => hp (i + 1) (by simpa using hi)
    simp only [posL, List.takeWhile_cons, h0, if_true, List.length_cons] at this ⊢
    omega
theorem put_len (k : Nat) (L : List (Int × Int)) (h : Int × Int) (hl : L.length ≤ k) : (putL k L h).1.length ≤ k := by
  unfold putL
  split
  · exact hl
  · split
    · exact hl
    · rw [List.length_take]; omega
def bestL (k : Nat) (L : List (Int × Int)) : List (Int × Int) := L.foldl (fun a h => (putL k a h).1) []
theorem putL_len1 (k : Nat) (L : List (Int × Int)) (h : Int × Int) : (putL k L h).1.length ≤ L.length + 1 := by
  unfold putL
  split
  · simp
  · split
    · simp
    · rw [List.length_take, List.length_append, List.length_cons, List.length_take, List.length_drop]; have := posL_le L h; omega
theorem bestL_snoc (k : Nat) (L : List (Int × Int)) (h : Int × Int) : bestL k (L ++ [h]) = (putL k (bestL k L) h).1 := by
  rw [bestL, List.foldl_append]; rfl
theorem foldl_len (k : Nat) : ∀ (L A : List (Int × Int)), (L.foldl (fun a h => (putL k a h).1) A).length ≤ A.length + L.length
  | [], A => by simp
  | h :: L, A => by
    have := foldl_len k L (putL k A h).1
    have := putL_len1 k A h
    rw [List.foldl_cons, List.length_cons]; omega
abbrev Sorted (L : List (Int × Int)) : Prop := L.Pairwise fun x y => lessB x y = true
theorem posL_prefix (L : List (Int × Int)) (h : Int × Int) : ∀ x ∈ L.take (posL L h), lessB x h = true := by
  have e : L.take (posL L h) = L.takeWhile (fun x => lessB x h) := by
    induction L with
    | nil => rfl
    | cons x L ih =>
      by_cases q : lessB x h = true
      · simp only [posL, List.takeWhile_cons, q, if_true, List.length_cons, List.take_succ_cons] at ih ⊢
        rw [ih]
      · simp [posL, q]
  rw [e]
  intro x hx
  exact (List.all_eq_true.1 (List.all_takeWhile (p := fun x => lessB x h) (l := L))) x hx
theorem posL_next {L : List (Int × Int)} {h y : Int × Int} {r : List (Int × Int)} (e : L.drop (posL L h) = y :: r) : lessB y h = false := by
  induction L with
  | nil => simp at e
  | cons x L ih =>
    by_cases q : lessB x h = true
    · simp only [posL, List.takeWhile_cons, q, if_true, List.length_cons, List.drop_succ_cons] at ih e
      exact ih e
    · simp [posL, q] at e
      rw [← e.1]; simpa using q
theorem insert_sorted {L : List (Int × Int)} {h : Int × Int} (hs : Sorted L) (hid : ∀ x ∈ L, x.1 ≠ h.1) : Sorted (L.take (posL L h) ++ h :: L.drop (posL L h)) := by
  have e := List.take_append_drop (posL L h) L
  have hs' := hs
  rw [← e] at hs'
  have ⟨s1, s2, s3⟩ := List.pairwise_append.1 hs'
  have hd : ∀ y ∈ L.drop (posL L h), lessB h y = true := by
    intro y hy
    cases hr : L.drop (posL L h) with
    | nil => rw [hr] at hy; cases hy
    | cons z r =>
      have hz := posL_next hr
      have hzm : z ∈ L := List.mem_of_mem_drop (i := posL L h) (by rw [hr]; simp)
      have hhz := lessB_total (hid z hzm) hz
      rw [hr] at hy s2
      rcases List.mem_cons.1 hy with rfl | hy
      · exact hhz
      · exact lessB_trans hhz ((List.pairwise_cons.1 s2).1 y hy)
  refine List.pairwise_append.2 ⟨s1, List.pairwise_cons.2 ⟨hd, s2⟩, fun x hx y hy => ?_⟩
  rcases List.mem_cons.1 hy with rfl | hy
  · exact posL_prefix L _ x hx
  · exact s3 x hx y hy
theorem putL_sorted (k : Nat) {L : List (Int × Int)} (h : Int × Int) (hs : Sorted L) : Sorted (putL k L h).1 := by
  unfold putL
  split
  · exact hs
  · rename_i hid
    split
    · exact hs
    · exact (insert_sorted hs fun x hx q => hid (List.any_eq_true.2 ⟨x, hx, by simpa using q⟩)).sublist (List.take_sublist _ _)
theorem foldl_sorted (k : Nat) : ∀ (L : List (Int × Int)) {A : List (Int × Int)}, Sorted A → Sorted (L.foldl (fun a h => (putL k a h).1) A)
  | [], _, h => h
  | x :: L, _, h => foldl_sorted k L (putL_sorted k x h)
theorem bestL_sorted (k : Nat) (L : List (Int × Int)) : Sorted (bestL k L) := foldl_sorted k L List.Pairwise.nil
abbrev Uni (L : List (Int × Int)) : Prop := (L.map fun x => x.1).Nodup
def insL (L : List (Int × Int)) (h : Int × Int) : List (Int × Int) := L.take (posL L h) ++ h :: L.drop (posL L h)
def ordL (L : List (Int × Int)) : List (Int × Int) := L.foldl insL []
theorem insL_perm (L : List (Int × Int)) (h : Int × Int) : (insL L h).Perm (h :: L) := by
  unfold insL
  have := List.perm_middle (a := h) (l₁ := L.take (posL L h)) (l₂ := L.drop (posL L h))
  rw [List.take_append_drop] at this
  exact this
theorem foldl_ins_perm : ∀ (L A : List (Int × Int)), (L.foldl insL A).Perm (A ++ L)
  | [], A => by simp
  | h :: L, A => (foldl_ins_perm L (insL A h)).trans (((insL_perm A h).append_right L).trans List.perm_middle.symm)
theorem ordL_perm (L : List (Int × Int)) : (ordL L).Perm L := foldl_ins_perm L []
theorem uni_mid {A L : List (Int × Int)} {h : Int × Int} (hu : Uni (A ++ h :: L)) : ∀ x ∈ A, x.1 ≠ h.1 := by
  intro x hx
  have hu : ((A ++ h :: L).map fun x => x.1).Nodup := hu
  rw [List.map_append] at hu
  exact (List.nodup_append.1 hu).2.2 x.1 (List.mem_map.2 ⟨x, hx, rfl⟩) h.1 (by simp)
theorem foldl_ins_sorted : ∀ (L A : List (Int × Int)), Sorted A → Uni (A ++ L) → Sorted (L.foldl insL A)
  | [], A, h, _ => h
  | h :: L, A, hs, hu => by
    refine foldl_ins_sorted L (insL A h) (insert_sorted hs (uni_mid hu)) ?_
    exact ((((insL_perm A h).append_right L).trans List.perm_middle.symm).map fun x => x.1).nodup_iff.2 hu
theorem ordL_sorted {L : List (Int × Int)} (h : Uni L) : Sorted (ordL L) := foldl_ins_sorted L [] List.Pairwise.nil h
theorem lessB_irrefl (x : Int × Int) : lessB x x = false := by
  cases h : lessB x x with
  | false => rfl
  | true => rw [lessB_iff] at h; omega
theorem lessB_asymm {x y : Int × Int} (h : lessB x y = true) : lessB y x = false := by
  cases k : lessB y x with
  | false => rfl
  | true => rw [lessB_iff] at h k; omega
theorem sorted_unique {L L' : List (Int × Int)} (hp : L.Perm L') (h : Sorted L) (h' : Sorted L') : L = L' :=
  List.Perm.eq_of_pairwise (le := fun x y => lessB x y = true) (fun a b _ _ h1 h2 => by rw [lessB_asymm h1] at h2; cases h2) h h' hp
theorem ordL_eq {L L' : List (Int × Int)} (hp : L.Perm L') (h : Uni L) : ordL L = ordL L' :=
  sorted_unique ((ordL_perm L).trans (hp.trans (ordL_perm L').symm)) (ordL_sorted h) (ordL_sorted ((hp.map fun x => x.1).nodup_iff.1 h))
theorem ordL_of_sorted {L : List (Int × Int)} (h : Sorted L) (hu : Uni L) : ordL L = L := sorted_unique (ordL_perm L) (ordL_sorted hu) h
theorem sorted_uni {L : List (Int × Int)} (hu : Uni L) {A : List (Int × Int)} (h : A.Sublist L) : Uni A := List.Nodup.sublist (h.map fun x => x.1) hu
theorem takeWhile_take' {α : Type} (p : α → Bool) : ∀ (L : List α) (k : Nat), ((L.take k).takeWhile p).length = min k (L.takeWhile p).length
  | [], k => by simp
  | x :: L, 0 => by simp
  | x :: L, k + 1 => by
    rw [List.take_succ_cons, List.takeWhile_cons, List.takeWhile_cons]
    cases p x with
    | true => simp only [if_true, List.length_cons, takeWhile_take' p L k]; omega
    | false => simp
theorem posL_take (L : List (Int × Int)) (h : Int × Int) (k : Nat) : posL (L.take k) h = min k (posL L h) := takeWhile_take' _ L k
theorem put_take {k : Nat} {O : List (Int × Int)} {h : Int × Int} (hid : ∀ x ∈ O, x.1 ≠ h.1) : (putL k (O.take k) h).1 = (insL O h).take k := by
  have hany : ¬ (O.take k).any (fun x => decide (x.1 = h.1)) = true := by
    intro q
    obtain ⟨x, hx, hx'⟩ := List.any_eq_true.1 q
    exact hid x (List.mem_of_mem_take hx) (by simpa using hx')
  have hle := posL_le O h
  unfold putL
  rw [if_neg hany, posL_take]
  by_cases c : k ≤ posL O h
  · rw [if_pos (by omega)]
    unfold insL
    rw [List.take_append_of_le_length (by rw [List.length_take]; omega), List.take_take, Nat.min_eq_left c]
  · rw [if_neg (by omega), Nat.min_eq_right (by omega)]
    unfold insL
    generalize posL O h = p at *
    show (List.take p (O.take k) ++ h :: List.drop p (O.take k)).take k = (O.take p ++ h :: O.drop p).take k
    rw [List.take_take, Nat.min_eq_left (by omega), List.take_append, List.take_append, List.length_take, Nat.min_eq_left (by omega)]
    congr 1
    obtain ⟨s, hs⟩ : ∃ s, k - p = s + 1 := ⟨k - p - 1, by omega⟩
    rw [hs, List.take_succ_cons, List.take_succ_cons, List.drop_take, hs, List.take_take]
    congr 2
    omega
theorem bestL_ord {k : Nat} {L : List (Int × Int)} (hu : Uni L) : bestL k L = (ordL L).take k := by
  have key : ∀ (L A : List (Int × Int)), Uni (A ++ L) → L.foldl (fun a h => (putL k a h).1) (A.take k) = (L.foldl insL A).take k := by
    intro L
    induction L with
    | nil => intro A _; rfl
    | cons h L ih =>
      intro A hu
      rw [List.foldl_cons, List.foldl_cons, put_take (uni_mid hu)]
      exact ih _ (((((insL_perm A h).append_right L).trans List.perm_middle.symm).map fun x => x.1).nodup_iff.2 hu)
  have := key L [] hu
  rw [List.take_nil] at this
  exact this
theorem best_perm {k : Nat} {L L' : List (Int × Int)} (hu : Uni L) (hp : L.Perm L') : bestL k L = bestL k L' := by
  rw [bestL_ord hu, bestL_ord ((hp.map fun x => x.1).nodup_iff.1 hu), ordL_eq hp hu]
theorem best_len {k : Nat} {L : List (Int × Int)} (hu : Uni L) : (bestL k L).length = min k L.length := by
  rw [bestL_ord hu, List.length_take, (ordL_perm L).length_eq]
def posR (L : List (Int × Int)) (h : Int × Int) : Nat := (L.takeWhile fun x => !lessB h x).length
theorem posR_eq {h : Int × Int} : ∀ {L : List (Int × Int)}, (∀ x ∈ L, x.1 ≠ h.1) → posR L h = posL L h
  | [], _ => rfl
  | x :: L, hid => by
    have e : (!lessB h x) = lessB x h := by
      cases q : lessB x h with
      | true => rw [lessB_asymm q]; rfl
      | false => rw [lessB_total (hid x (by simp)) q]; rfl
    have ih := posR_eq (L := L) (h := h) fun y hy => hid y (by simp [hy])
    unfold posR posL at *
    rw [List.takeWhile_cons, List.takeWhile_cons, e]
    cases lessB x h with
    | true => simp only [if_true, List.length_cons, ih]
    | false => rfl
theorem posL_lt {L : List (Int × Int)} {h : Int × Int} {i : Nat} (hi : i < L.length) (hn : lessB L[i] h = false) : posL L h ≤ i := by
  rcases Nat.lt_or_ge i (posL L h) with q | q
  · have := posL_prefix L h L[i] (List.mem_take_iff_getElem.2 ⟨i, by omega, rfl⟩)
    rw [this] at hn; cases hn
  · exact q
theorem putL_full {k : Nat} {L : List (Int × Int)} {h : Int × Int} (hs : Sorted L) (hk : 0 < L.length) (hl : k ≤ L.length) (hid : ∀ x ∈ L, x.1 ≠ h.1) (hn : lessB h L[L.length - 1] = false) : putL k L h = (L, false) := by
  have hlast : lessB L[L.length - 1] h = true := by
    cases q : lessB L[L.length - 1] h with
    | true => rfl
    | false => rw [lessB_total (hid _ (List.getElem_mem _)) q] at hn; cases hn
  have hall : posL L h = L.length := by
    refine posL_all fun i hi => ?_
    by_cases q : i = L.length - 1
    · subst q; exact hlast
    · exact lessB_trans (List.pairwise_iff_getElem.1 hs i (L.length - 1) hi (by omega) (by omega)) hlast
  unfold putL
  rw [if_neg, if_pos (by omega)]
  intro q
  obtain ⟨x, hx, hx'⟩ := List.any_eq_true.1 q
  exact hid x hx (by simpa using hx')
theorem putL_in {k : Nat} {L : List (Int × Int)} {h : Int × Int} (hk : 0 < k) (hl : L.length ≤ k) (hid : ∀ x ∈ L, x.1 ≠ h.1) (hn : ∀ hk : k ≤ L.length, lessB h (L[L.length - 1]'(by omega)) = true) : putL k L h = ((L.take (posR L h) ++ h :: L.drop (posR L h)).take k, true) := by
  have hp : posL L h < k := by
    have := posL_le L h
    by_cases q : k ≤ L.length
    · have := posL_lt (L := L) (h := h) (i := L.length - 1) (by omega) (lessB_asymm (hn q))
      omega
    · omega
  rw [posR_eq hid]
  unfold putL
  rw [if_neg, if_neg (by omega)]
  intro q
  obtain ⟨x, hx, hx'⟩ := List.any_eq_true.1 q
  exact hid x hx (by simpa using hx')
theorem posR_at {L : List (Int × Int)} {h : Int × Int} {j : Nat} (hj : j ≤ L.length) (hp : ∀ i (hi : i < j), lessB h (L[i]'(by omega)) = false) (hn : ∀ hj : j < L.length, lessB h L[j] = true) : posR L h = j := by
  induction j generalizing L with
  | zero =>
    cases L with
    | nil => rfl
    | cons x L => have := hn (by simp); simp at this; simp [posR, this]
  | succ j ih =>
    cases L with
    | nil => simp at hj
    | cons x L =>
      have h0 := hp 0 (by omega)
      simp at h0
      have := ih (L := L) (by simpa using hj) (fun i hi => by simpa using hp (i + 1) (by omega)) (fun q => by have := hn (by simpa using q); rw [List.getElem_cons_succ] at this; exact this)
      unfold posR at *
      simp only [List.takeWhile_cons, h0, Bool.not_false, if_true, List.length_cons, this]
end
end Go.Ab
