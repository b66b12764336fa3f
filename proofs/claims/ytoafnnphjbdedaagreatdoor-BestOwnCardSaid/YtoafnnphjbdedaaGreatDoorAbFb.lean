/- A whole world as an abstract heap: what lies there is read alone. -/
import Derived.Test.YtoafnnphjbdedaaGreatDoorAbFa
import Derived.Test.YtoafnnphjbdedaaGreatDoorAbGa
namespace Go.Ab
noncomputable section
variable {P : Program}

/-- The name of a block of the world. -/
def idW (G B : Nat) : Nat := if B < G then B else G + 1 + B
def invW (G b : Nat) : Option Nat := if b < G then some b else if G + 1 + G ≤ b then some (b - (G + 1)) else none
theorem inv_id (G B : Nat) : invW G (idW G B) = some B := by
  unfold invW idW
  by_cases h : B < G
  · rw [if_pos h, if_pos h]
  · rw [if_neg h, if_neg (by omega), if_pos (by omega)]; congr 1; omega
theorem id_inv {G b B : Nat} (h : invW G b = some B) : b = idW G B := by
  unfold invW at h
  split at h
  · cases h; unfold idW; rw [if_pos (by assumption)]
  · split at h
    · cases h; unfold idW; rw [if_neg (by omega)]; omega
    · cases h
/-- A cell, as far as it is read. -/
def absW (G N : Nat) : Value → Option AV
  | .int k n => some (.int k n)
  | .bool b => some (.bool b)
  | .slice none n c => some (.slice none n c true)
  | .slice (some ⟨B, o, none⟩) n c => if B < N then some (.slice (some (idW G B, o)) n c true) else none
  | _ => none
def cellW (G N : Nat) (l : AV) (B : Nat) (c : Array Value) (i : Nat) : Option AV := if B = 0 ∧ i = 0 then some l else c[i]?.bind (absW G N)
def roW (G N : Nat) (l : AV) (B : Nat) (x : Option Obj) : Option ABlk := match x with
  | some (.cells c e fr) => some (.ro (.cells c e fr) (cellW G N l B c))
  | _ => none
def trW (G N : Nat) (l : AV) (heap : Nat → Option Obj) : Nat → Tr ABlk
  | 0 => Tr.leaf
  | B + 1 => (trW G N l heap B).put (idW G B) (roW G N l B (heap B))
theorem trW_get (G N : Nat) (l : AV) (heap : Nat → Option Obj) : ∀ (n b : Nat), (trW G N l heap n).get b = (invW G b).bind fun B => if B < n then roW G N l B (heap B) else none
  | 0, b => by
    show Tr.get Tr.leaf b = _
    have : Tr.get (Tr.leaf : Tr ABlk) b = none := rfl
    rw [this]
    cases invW G b <;> rfl
  | n + 1, b => by
    show (Tr.put _ _ _).get b = _
    rw [Tr.get_put, trW_get G N l heap n b]
    by_cases h : b = idW G n
    · subst h; rw [if_pos rfl, inv_id]; simp
    · rw [if_neg h]
      cases hi : invW G b with
      | none => rfl
      | some B =>
        have hb := id_inv hi
        have hB : B ≠ n := fun q => h (by rw [hb, q])
        show (if B < n then _ else none) = if B < n + 1 then _ else none
        by_cases c : B < n
        · rw [if_pos c, if_pos (by omega)]
        · rw [if_neg c, if_neg (by omega)]
/-- The world's heap. -/
def AH.whole (G : Nat) (W : World) (l : AV) : AH := ⟨trW G W.heap.size l (fun B => W.heap[B]?) W.heap.size, G + 1 + W.heap.size⟩
theorem get_whole {G : Nat} {W : World} {l : AV} {b : Nat} {x : ABlk} (h : (AH.whole G W l).get b = some x) : ∃ B c e fr, b = idW G B ∧ B < W.heap.size ∧ W.heap[B]? = some (.cells c e fr) ∧ x = .ro (.cells c e fr) (cellW G W.heap.size l B c) := by
  have h : (trW G W.heap.size l (fun B => W.heap[B]?) W.heap.size).get b = some x := h
  rw [trW_get] at h
  obtain ⟨B, hB, h⟩ := Option.bind_eq_some_iff.1 h
  split at h
  · rename_i hlt
    unfold roW at h
    split at h
    · rename_i c e fr hc
      cases h
      exact ⟨B, c, e, fr, id_inv hB, hlt, hc, rfl⟩
    · cases h
  · cases h
theorem whole_get {G : Nat} {W : World} {l : AV} {B : Nat} {c : Array Value} {e : TypeId} {fr : Nat × Nat} (h : W.heap[B]? = some (.cells c e fr)) : (AH.whole G W l).get (idW G B) = some (.ro (.cells c e fr) (cellW G W.heap.size l B c)) := by
  show (trW G W.heap.size l (fun B => W.heap[B]?) W.heap.size).get (idW G B) = _
  have hlt : B < W.heap.size := (Array.getElem?_eq_some_iff.1 h).1
  rw [trW_get, inv_id]
  show (if B < W.heap.size then roW G W.heap.size l B (W.heap[B]?) else none) = _
  rw [if_pos hlt, h]; rfl
def rhoW (G N : Nat) : Env := fun b => if b < G + 1 then some ⟨b, 0, 0⟩ else if b < G + 1 + N then some ⟨b - (G + 1), 0, 0⟩ else none
theorem rhoW_in {G N B : Nat} (h : B < N) : rhoW G N (idW G B) = some ⟨B, 0, 0⟩ := by
  unfold rhoW idW
  by_cases q : B < G
  · rw [if_pos q, if_pos (by omega)]
  · rw [if_neg q, if_neg (by omega), if_pos (by omega)]; congr 2; omega
theorem id_lt {G N B : Nat} (h : B < N) : idW G B < G + 1 + N := by unfold idW; split <;> omega
theorem rel_absW {G N : Nat} : ∀ {v : Value} {x : AV}, absW G N v = some x → x.one = true ∧ x.known = true ∧ Rel (rhoW G N) x v := by
  intro v x h
  unfold absW at h
  split at h
  · cases h; exact ⟨rfl, rfl, rfl⟩
  · cases h; exact ⟨rfl, rfl, rfl⟩
  · cases h; exact ⟨rfl, rfl, rfl⟩
  · split at h
    · rename_i hB
      cases h
      exact ⟨rfl, rfl, _, rhoW_in hB, by simp⟩
    · cases h
  · cases h

theorem real_whole {W : World} {rt h : Nat} (hl : W.cell? ⟨0, 0, none⟩ = some (.iface rt (.agg #[.pointer (some ⟨P.globals.size, h, none⟩)]))) : Real P (rhoW P.globals.size W.heap.size) (AH.whole P.globals.size W (laidV rt P.globals.size h)) W := by
  have hrho : ∀ b, b < P.globals.size + 1 → rhoW P.globals.size W.heap.size b = some ⟨b, 0, 0⟩ := fun b hb => if_pos hb
  refine ⟨fun b x hx => ?_, fun b b' l l' q1 q2 k1 k2 hb => ?_, fun b hb => ?_, fun g hg => hrho g hg⟩
  · obtain ⟨B, c, e, fr, rfl, hlt, hc, rfl⟩ := get_whole hx
    refine ⟨⟨B, 0, 0⟩, c, e, fr, rhoW_in hlt, hc, rfl, fun i y hy => ?_⟩
    unfold cellW at hy
    split at hy
    · rename_i h0
      obtain ⟨rfl, rfl⟩ := h0
      cases hy
      have hcell : c[0]? = some (.iface rt (.agg #[.pointer (some ⟨P.globals.size, h, none⟩)])) := by simpa [World.cell?, hc] using hl
      exact ⟨rfl, _, hcell, ⟨_, rfl, _, rfl, _, _, rfl, ⟨_, hrho _ (Nat.lt_succ_self _), by simp⟩, rfl⟩⟩
    · obtain ⟨v, hv, hy⟩ := Option.bind_eq_some_iff.1 hy
      obtain ⟨h1, _, h3⟩ := rel_absW hy
      exact ⟨h1, v, by simpa using hv, h3⟩
  · obtain ⟨x, hx⟩ := Option.ne_none_iff_exists'.1 q1
    obtain ⟨x', hx'⟩ := Option.ne_none_iff_exists'.1 q2
    obtain ⟨B, c, e, fr, rfl, hlt, hc, rfl⟩ := get_whole hx
    obtain ⟨B', c', e', fr', rfl, hlt', hc', rfl⟩ := get_whole hx'
    rw [rhoW_in hlt] at k1
    rw [rhoW_in hlt'] at k2
    cases k1; cases k2
    exact congrArg (idW P.globals.size) hb
  · have hb : P.globals.size + 1 + W.heap.size ≤ b := hb
    unfold rhoW
    rw [if_neg (by omega), if_neg (by omega)]
theorem whole_ro {G : Nat} {W : World} {l : AV} {b : Nat} {x : ABlk} (hx : (AH.whole G W l).get b = some x) : ∃ ob' f, x = .ro ob' f := by
  obtain ⟨B, c, e, fr, _, _, _, rfl⟩ := get_whole hx
  exact ⟨_, _, rfl⟩
theorem whole_lt {G : Nat} {W : World} {l : AV} {b : Nat} (hx : (AH.whole G W l).get b ≠ none) : b < (AH.whole G W l).next := by
  obtain ⟨x, hx⟩ := Option.ne_none_iff_exists'.1 hx
  obtain ⟨B, c, e, fr, rfl, hlt, _⟩ := get_whole hx
  exact id_lt hlt
/-- What a cell of the world is, in it. -/
theorem cellOf_whole {G : Nat} {W : World} {l : AV} {B o : Nat} {v : Value} {y : AV} (h0 : ∀ t x, v ≠ .iface t x) (hl : ∃ t x, W.cell? ⟨0, 0, none⟩ = some (.iface t x)) (hc : W.cell? ⟨B, o, none⟩ = some v) (hy : absW G W.heap.size v = some y) : cellOf ((AH.whole G W l).get (idW G B)) o = some y := by
  have hne : ¬ (B = 0 ∧ o = 0) := by
    rintro ⟨rfl, rfl⟩
    obtain ⟨t, x, hl⟩ := hl
    rw [hl] at hc
    cases hc
    exact h0 _ _ rfl
  unfold World.cell? at hc
  split at hc
  · rename_i c e fr hb
    have hb : W.heap[B]? = some (.cells c e fr) := hb
    simp only [Option.isSome_none, Bool.false_eq_true, if_false] at hc
    rw [whole_get hb, cellOf_ro]
    unfold cellW
    rw [if_neg hne, show c[o]? = some v from hc]; exact hy
  · cases hc
end
end Go.Ab
