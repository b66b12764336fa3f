/- slices.Insert of one element: the room behind a slice is made known, and forgotten again. -/
import Derived.Test.YtoafnnphjbdedaaGreatDoorAbEb
namespace Go.Ab
variable {P : Program} {ρ : Env} {H : AH} {w : World}

/-- Names that are passed over. -/
noncomputable def AH.upTo (H : AH) (n : Nat) : AH := ⟨H.tr, n⟩
theorem get_upTo (H : AH) (n b : Nat) : (H.upTo n).get b = H.get b := rfl
theorem Good.upTo (h : Real P ρ H w) {n : Nat} (hn : H.next ≤ n) : Good none P ρ H w ρ (H.upTo n) w := by
  refine ⟨⟨h.lies, h.inj, fun b hb => h.fresh b (Nat.le_trans hn hb), h.glob'⟩, .refl ρ, hn, Nat.le_refl _, fun b l h1 h2 _ => ⟨b, l, h1, h2, rfl⟩, fun _ _ _ => rfl, rfl, rfl, rfl, fun _ _ q _ => q⟩

/-- The room behind an open slice's row is made known: cells of which nothing is known. -/
theorem Real.openUp (h : Real P ρ H w) {b : Nat} {e : TypeId} {cs : List AV} (hb : H.get b = some (.cells e cs)) {l : Loc} (hl : ρ b = some l) :
    Good none P ρ H w (ρ.with H.next ⟨l.blk, l.off, 0⟩) (newH (H.put b none) none (.cells e (cs ++ List.replicate (l.spare * P.cellsOf e) .any))) w := by
  refine h.move (by rw [hb]; simp) hl rfl rfl (fun _ _ => rfl) ?_ rfl rfl rfl
  obtain ⟨l', c, fr, h1, h2, h3, h4, h5, h6, h7⟩ := h.lies b _ hb
  rw [hl] at h1; cases h1
  have hle : Le ρ (ρ.with H.next ⟨l.blk, l.off, 0⟩) := le_with (h.fresh _ (Nat.le_refl _))
  refine ⟨_, c, fr, with_same _ _, h2, h3, ?_, ?_, fun i x hx => ?_, fun i v a1 a2 => ?_, h7.2⟩
  · simp only [List.length_append, List.length_replicate]; omega
  · intro x hx
    rw [List.mem_append] at hx
    rcases hx with hx | hx
    · exact h5 x hx
    · rw [List.eq_of_mem_replicate hx]; rfl
  · by_cases hi : i < cs.length
    · rw [List.getElem?_append_left hi] at hx
      obtain ⟨v, a, r⟩ := h6 i x hx
      exact ⟨v, a, r.mono hle⟩
    · rw [List.getElem?_append_right (by omega), List.getElem?_replicate] at hx
      split at hx
      · rename_i hlt
        cases hx
        have hlt2 : l.off + i < c.size := by omega
        exact ⟨c[l.off + i], Array.getElem?_eq_getElem hlt2, .inr ⟨rfl, h7.1 i _ (by omega) (by omega) (Array.getElem?_eq_getElem hlt2)⟩⟩
      · cases hx
  · simp only [List.length_append, List.length_replicate, Nat.zero_mul] at a1 a2; omega

/-- A slice that is all that goes on of its row: it is open behind. -/
theorem Good.shutDown {ρ1 : Env} {H1 H2 : AH} {w1 : World} (g : Good none P ρ H w ρ1 H1 w1) {B o k cap N sz : Nat} {ex : Bool} {e : TypeId} {cs L : List AV} {v : Value} (hB : H1.get B = some (.cells e cs)) (hsz : P.cellsOf e = sz)
    (hL : L = (cs.drop o).take (k * sz)) (hk : k ≤ cap) (hcap : o + cap * sz ≤ cs.length) (hN : H1.next ≤ N) (hv : Rel ρ1 (.slice (some (B, o)) k cap ex) v)
    (hn2 : H2.next = N + 1) (h2 : ∀ c x, H2.get c = some x → (c = N ∧ x = .cells e L) ∨ (c ≠ N ∧ c ≠ B ∧ H1.get c = some x)) :
    ∃ ρ', Rel ρ' (.slice (some (N, 0)) k k false) v ∧ Good none P ρ H w ρ' H2 w1 := by
  obtain ⟨l, hl, rfl⟩ := rel_slice hv
  have g1 := g.trans (Good.upTo g.real hN)
  have hLl : L.length = k * sz := by
    have : k * sz ≤ cap * sz := Nat.mul_le_mul_right _ hk
    rw [hL, List.length_take, List.length_drop]; omega
  -- how much room there is
  obtain ⟨sp, hsp⟩ : ∃ sp, (if ex then cap else cap + l.spare) = k + sp := ⟨(if ex then cap else cap + l.spare) - k, by split <;> omega⟩
  have hsp' : (k + sp) * sz ≤ cap * sz + l.spare * sz := by
    rw [← hsp, ← Nat.add_mul]
    refine Nat.mul_le_mul_right _ ?_
    split <;> omega
  have hks : (k + sp) * sz = k * sz + sp * sz := Nat.add_mul _ _ _
  have g2 : Good none P ρ1 (H1.upTo N) w1 (ρ1.with N ⟨l.blk, l.off + o, sp⟩) (newH ((H1.upTo N).put B none) none (.cells e L)) w1 := by
    refine g1.real.move (H := H1.upTo N) (b := B) (by rw [get_upTo, hB]; simp) hl rfl rfl (fun _ _ => rfl) ?_ rfl rfl rfl
    obtain ⟨l', c, fr, a1, a2, a3, a4, a5, a6, a7⟩ := g.real.lies B _ hB
    rw [hl] at a1; cases a1
    rw [hsz] at a4
    have hle : Le ρ1 (ρ1.with N ⟨l.blk, l.off + o, sp⟩) := le_with (g.real.fresh _ hN)
    have hmem : ∀ i x, L[i]? = some x → cs[o + i]? = some x := by
      intro i x hx
      rw [hL, List.getElem?_take] at hx
      split at hx
      · rw [List.getElem?_drop] at hx; exact hx
      · cases hx
    refine ⟨_, c, fr, with_same _ _, a2, a3, ?_, ?_, fun i x hx => ?_, fun i u b1 b2 b3 => ?_, a7.2⟩
    · rw [hLl, hsz]; show l.off + o + k * sz + sp * sz ≤ c.size; omega
    · intro x hx
      obtain ⟨i, hi⟩ := List.getElem?_of_mem hx
      exact a5 x (List.mem_of_getElem? (hmem i x hi))
    · obtain ⟨u, b1, b2⟩ := a6 _ x (hmem i x hx)
      exact ⟨u, by rw [← b1]; congr 1; show l.off + o + i = _; omega, b2.mono hle⟩
    · rw [hLl] at b1 b2
      rw [hsz] at b2
      have b2 : i < k * sz + sp * sz := b2
      have b3 : c[l.off + (o + i)]? = some u := by rw [← b3]; congr 1; show _ = l.off + o + i; omega
      by_cases hlt : o + i < cs.length
      · obtain ⟨u', q1, q2⟩ := a6 (o + i) _ (List.getElem?_eq_getElem hlt)
        rw [q1] at b3; cases b3
        rw [q2.one]; exact a5 _ (List.getElem_mem _)
      · refine a7.1 (o + i) u (by omega) ?_ b3
        rw [hsz]; omega
  refine ⟨_, ?_, (g1.trans g2).sub (fun c x hx => ?_) ?_⟩
  · refine ⟨_, with_same _ _, ?_⟩
    simp only [Bool.false_eq_true, if_false, Nat.add_zero]
    rw [hsp]
  · rw [get_newH, AH.get_put]
    rcases h2 c x hx with ⟨rfl, rfl⟩ | ⟨q1, q2, q3⟩
    · rw [if_pos (show c = idOf ((H1.upTo c).put B none) none from rfl)]
    · rw [if_neg (show c ≠ idOf ((H1.upTo N).put B none) none from q1), if_neg q2]; exact q3
  · rw [hn2]; simp [newH, AH.newTo_none, AH.upTo]
end Go.Ab
