/- Maps by integers: plain. -/
import Derived.Test.YtbahknfffhijlaaGreatDoorMaps
namespace Go.Ab
set_option maxRecDepth 10000

abbrev keysM (M : Me) : List Int := M.map fun e => e.1
theorem findI_none {k : Int} : ∀ {M : Me} {i : Nat}, findI k M i = none ↔ k ∉ keysM M
  | [], _ => by simp [findI]
  | e :: M, i => by
    unfold findI
    by_cases c : k = e.1
    · rw [if_pos c]; simp [keysM, c]
    · rw [if_neg c, findI_none]; simp [keysM, c]
theorem findI_some {k : Int} : ∀ {M : Me} {i : Nat} {x : Nat × AV}, findI k M i = some x → ∃ j c, x.1 = i + j ∧ M[j]? = some (k, x.2, c)
  | [], _, _, h => by cases h
  | e :: M, i, x, h => by
    unfold findI at h
    by_cases c : k = e.1
    · rw [if_pos c] at h
      cases h
      exact ⟨0, e.2.2, rfl, by rw [c]; rfl⟩
    · rw [if_neg c] at h
      obtain ⟨j, t, e1, e2⟩ := findI_some h
      exact ⟨j + 1, t, by omega, e2⟩
theorem setM_keys_in {M : Me} {k : Int} (v : AV) (clk : Nat) (h : k ∈ keysM M) : keysM (setM M k v clk) = keysM M := by
  unfold setM
  cases q : findI k M 0 with
  | none => exact absurd h (findI_none.1 q)
  | some x =>
    obtain ⟨j, c, e1, e2⟩ := findI_some q
    apply List.ext_getElem?
    intro i
    simp only [List.getElem?_map, List.getElem?_modify]
    by_cases d : x.1 = i
    · have : j = i := by omega
      subst this
      simp [d, e2]
    · simp [d]
theorem setM_keys_out {M : Me} {k : Int} (v : AV) (clk : Nat) (h : k ∉ keysM M) : keysM (setM M k v clk) = keysM M ++ [k] := by
  unfold setM
  rw [findI_none.2 h]
  simp [keysM]
theorem setM_nodup {M : Me} (k : Int) (v : AV) (clk : Nat) (h : (keysM M).Nodup) : (keysM (setM M k v clk)).Nodup := by
  by_cases c : k ∈ keysM M
  · rw [setM_keys_in v clk c]; exact h
  · rw [setM_keys_out v clk c]
    exact List.nodup_append.2 ⟨h, by simp, fun a ha b hb e => c (by rw [List.mem_singleton.1 hb] at e; rw [← e]; exact ha)⟩
/-- In a map of which no key lies there twice: a key's value. -/
theorem lookM_of {M : Me} (h : (keysM M).Nodup) {z : AV} {e : Int × AV × Nat} (he : e ∈ M) : lookM z M e.1 = e.2.1 := by
  unfold lookM
  cases q : findI e.1 M 0 with
  | none => exact absurd (List.mem_map_of_mem (f := fun e : Int × AV × Nat => e.1) he) (findI_none.1 q)
  | some x =>
    obtain ⟨j, c, _, e2⟩ := findI_some q
    obtain ⟨i, hi⟩ := List.getElem?_of_mem he
    have k1 : (keysM M)[j]? = some e.1 := by rw [List.getElem?_map, e2]; rfl
    have k2 : (keysM M)[i]? = some e.1 := by rw [List.getElem?_map, hi]; rfl
    have hj : j < (keysM M).length := (List.getElem?_eq_some_iff.1 k1).1
    have : j = i := (List.getElem?_inj hj h).1 (k1.trans k2.symm)
    subst this
    have e3 := Option.some.inj (hi.symm.trans e2)
    show x.2 = _
    rw [e3]
theorem lookM_out {M : Me} {k : Int} {z : AV} (h : k ∉ keysM M) : lookM z M k = z := by
  unfold lookM; rw [findI_none.2 h]
theorem lookM_same (M : Me) (k : Int) (v z : AV) (clk : Nat) (h : (keysM M).Nodup) : lookM z (setM M k v clk) k = v := by
  have hn := setM_nodup k v clk h
  have : ∃ c, (k, v, c) ∈ setM M k v clk := by
    unfold setM
    cases q : findI k M 0 with
    | none => exact ⟨clk, by simp⟩
    | some x =>
      obtain ⟨j, c, e1, e2⟩ := findI_some q
      refine ⟨c, List.mem_of_getElem? (i := j) ?_⟩
      have : x.1 = j := by omega
      simp [this, e2]
  obtain ⟨c, hc⟩ := this
  exact lookM_of hn hc
theorem lookM_other (M : Me) {k k' : Int} (v z : AV) (clk : Nat) (h : (keysM M).Nodup) (hk : k' ≠ k) : lookM z (setM M k v clk) k' = lookM z M k' := by
  have hn := setM_nodup k v clk h
  have back : ∀ e ∈ M, e.1 ≠ k → e ∈ setM M k v clk := by
    intro e he ne
    unfold setM
    cases q : findI k M 0 with
    | none => exact List.mem_append_left _ he
    | some x =>
      obtain ⟨j, c, e1, e2⟩ := findI_some q
      obtain ⟨i, hi⟩ := List.getElem?_of_mem he
      refine List.mem_of_getElem? (i := i) ?_
      have : x.1 ≠ i := by
        intro q
        have : j = i := by omega
        subst this
        rw [hi] at e2; cases e2; exact ne rfl
      simp [this, hi]
  by_cases c : k' ∈ keysM M
  · obtain ⟨e, he, rfl⟩ := List.mem_map.1 c
    rw [lookM_of h he, lookM_of hn (back e he hk)]
  · rw [lookM_out c, lookM_out]
    by_cases d : k ∈ keysM M
    · rw [setM_keys_in v clk d]; exact c
    · rw [setM_keys_out v clk d]; simp; exact ⟨by simpa using c, hk⟩
end Go.Ab
