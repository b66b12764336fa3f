/- An argument that is a slice, as a row in the world's heap. -/
import Derived.Test.YtoafnnphjbdedaaGreatDoorAbFb
import Derived.Deep.Slices
import Derived.Deep.Fields
import Derived.ChangeSame
namespace Go.Ab
open Go.ChangeShapes Go.WideShapes Go.Deep
noncomputable section
variable {P : Program}

theorem add_none {a : Addr} (h : a.spot = none) (n : Nat) : a.add n = ⟨a.block, a.off + n, none⟩ := by
  obtain ⟨B, o, s⟩ := a
  cases h
  unfold Addr.add
  split
  · rename_i h; subst h; rfl
  · rfl
theorem in_row {H : Type} {enc : TypeId × Value → H} {W : World} {α : Type} (dec : α → List AV) (val : α → List Value) {G sz : Nat} {l : AV} {t e : TypeId} {r : Reach} {b0 : Nat} {v : Value} {d : DataW H} {p : List MemPlace}
    (ht : P.underlying t = some (.slice e)) (hsz : P.cellsOf e = sz) (hz : 0 < sz) (hl : ∃ t x, W.cell? ⟨0, 0, none⟩ = some (.iface t x))
    (hdl : ∀ a, (dec a).length = sz) (hvl : ∀ a, (val a).length = sz) (hdv : ∀ (a : α) (i : Nat) (x : AV), (dec a)[i]? = some x → ∃ y, (val a)[i]? = some y ∧ absW G W.heap.size y = some x ∧ ∀ t z, y ≠ .iface t z)
    (hel : ∀ n cs y, DataW.trod enc P W 0 (fun _ => true) true n e cs = some y → ∃ a, cs = val a)
    (hv : Value.okWide P W r b0 t v) (h : DataW.Trod enc P W 0 (fun _ => true) true t v d p) :
    ∃ (b : Nat) (s : AV) (L : List α), Rel (rhoW G W.heap.size) s v ∧ b < (AH.whole G W l).next ∧ Sl (AH.whole G W l) sz b s (L.map dec) ∧ L.length ≤ maxLen := by
  obtain ⟨a0, len0, cap0, rfl⟩ := okWide_slice ht hv
  have hcell : (Value.slice a0 len0 cap0).cells.toList = [Value.slice a0 len0 cap0] := rfl
  obtain ⟨fuel, h⟩ := h
  rw [hcell] at h
  rcases open_slice ht h with ⟨h1, -⟩ | ⟨a, len, cap, m, n, D, Pl, hcs, hb, hle, hm, hmm, hx, hi⟩
  · simp only [List.cons.injEq, Value.slice.injEq, and_true] at h1
    obtain ⟨rfl, rfl, rfl⟩ := h1
    exact ⟨0, .slice none 0 0 true, [], rfl, Nat.lt_of_lt_of_le (Nat.succ_pos _) (Nat.le_add_right _ _), ⟨.inl ⟨rfl, rfl⟩⟩, Nat.zero_le _⟩
  · simp only [List.cons.injEq, Value.slice.injEq, and_true] at hcs
    obtain ⟨rfl, rfl, rfl⟩ := hcs
    have hok : W.has P r b0 a e cap0 := by
      unfold Value.okWide at hv
      rw [ht] at hv
      simp only [Cell.okWide, ht, Cell.ok] at hv
      exact hv.2.2
    obtain ⟨_, hspot, row, cells, hsh, _⟩ := hok
    have hlt : a.block < W.heap.size := by
      unfold World.shape? at hsh
      split at hsh
      · rename_i hh; exact (Array.getElem?_eq_some_iff.1 hh).1
      · cases hsh
    have hmc : m = cap0 := by simpa using hmm
    have hex : ∀ i : Fin len0, ∃ x : α, W.cells? 0 (a.add (i.1 * sz)) sz = some (val x) := by
      intro i
      obtain ⟨cs', hc, ht'⟩ := hi i.1 (by have := i.2; omega)
      obtain ⟨x, rfl⟩ := hel _ _ _ ht'
      rw [hsz] at hc
      exact ⟨x, hc⟩
    refine ⟨idW G a.block, .slice (some (idW G a.block, a.off)) len0 cap0 true, List.ofFn fun i => Classical.choose (hex i), ⟨_, rhoW_in hlt, ?_⟩, id_lt hlt, ⟨.inr ⟨a.off, cap0, true, ?_, ⟨id_lt hlt, fun x hx => ?_, fun x hx => ?_, fun x hx => ?_, fun j x hx i y hy => ?_⟩, ?_⟩⟩, ?_⟩
    · obtain ⟨B, o, s⟩ := a
      cases hspot
      simp
    · rw [List.length_map, List.length_ofFn]
    · obtain ⟨z, _, rfl⟩ := List.mem_map.1 hx; exact hdl z
    · obtain ⟨z, _, rfl⟩ := List.mem_map.1 hx
      rw [List.all_eq_true]
      intro y hy
      obtain ⟨i, hi, rfl⟩ := List.mem_iff_getElem.1 hy
      obtain ⟨w, _, h2, _⟩ := hdv z i _ (List.getElem?_eq_getElem hi)
      exact (rel_absW h2).2.1
    · obtain ⟨z, _, rfl⟩ := List.mem_map.1 hx
      rw [List.all_eq_true]
      intro y hy
      obtain ⟨i, hi, rfl⟩ := List.mem_iff_getElem.1 hy
      obtain ⟨w, _, h2, _⟩ := hdv z i _ (List.getElem?_eq_getElem hi)
      exact (rel_absW h2).1
    · rw [List.getElem?_map] at hx
      obtain ⟨z, hz', rfl⟩ := Option.map_eq_some_iff.1 hx
      rw [List.getElem?_ofFn] at hz'
      split at hz'
      · rename_i hj
        cases hz'
        have hc := Classical.choose_spec (hex ⟨j, hj⟩)
        generalize Classical.choose (hex ⟨j, hj⟩) = z at hc hy
        obtain ⟨w, h1, h2, h3⟩ := hdv z i y hy
        have hi' : i < sz := by have := (List.getElem?_eq_some_iff.1 h1).1; rw [hvl] at this; exact this
        obtain ⟨_, _, hat⟩ := World.cells?_some hc
        have hcell := hat i hi'
        rw [add_none hspot, add_none (by rfl)] at hcell
        exact cellOf_whole h3 hl (hcell.trans h1) h2
      · cases hz'
    · rw [List.length_map, List.length_ofFn]; exact hle
    · rw [List.length_ofFn]; omega
end
end Go.Ab
