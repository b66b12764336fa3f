/- A pool in a law: what is there beside it stays. -/
import Derived.Test.YtbahknfffhijlaaGreatDoorPoolW
namespace Go.Ab
noncomputable section
open Go.Proofs
set_option maxRecDepth 10000
variable {H H' : AH} {Q : Int → Prop}

theorem up_len : ∀ {L : List Int} {a N : Int}, Up L → (∀ x ∈ L, a ≤ x ∧ x < N) → (L.length : Int) ≤ max (N - a) 0
  | [], _, _, _, _ => by simp; omega
  | x :: L, a, N, h, hx => by
    have h' := List.pairwise_cons.1 h
    have := hx x (by simp)
    have ih := up_len (a := x + 1) (N := N) h'.2 fun y hy => ⟨by have := h'.1 y hy; omega, (hx y (by simp [hy])).2⟩
    rw [List.length_cons]; omega
theorem PInv.lenF {N : Nat} {s : PS} (h : PInv N s) : s.free.length ≤ N := by
  have := up_len (a := 0) (N := N) h.upF h.inF
  omega
theorem PInv.lenO {N : Nat} {s : PS} (h : PInv N s) (o : Int) : (s.of o).length ≤ N := by
  have := up_len (a := 0) (N := N) (h.upO o) (h.inO o)
  omega
structure Plx (Q : Int → Prop) (H0 H : AH) (p : Nat) (s : PS) : Prop where
  ext : Ext [] H0 H
  ex : ∃ fl, (∀ b ∈ fl, H0.next ≤ b) ∧ Pl Q H fl p s
theorem Plx.mono {H0 : AH} {p : Nat} {s : PS} (h : Plx Q H0 H p s) (e : Ext [] H H') : Plx Q H0 H' p s := by
  obtain ⟨fl, h1, h2⟩ := h.ex
  exact ⟨h.ext.trans e, fl, h1, h2.mono e (by simp)⟩
theorem new_plx (n : Int) (K : AV → AH → Prop) (hK : ∀ H' p, Plx Q H H' p (startP (min (max n 0) 1000).toNat) → K (.ptr (some (p, 0))) H') : CC.call 5 [.int .i64 n] H K :=
  poolNew_wp n K fun H' fl p x h1 h2 => hK H' p ⟨x, fl, h1, h2⟩
theorem size_plx {H0 : AH} {p N : Nat} {s : PS} {o b : Int} (h : Plx Q H0 H p s) (hQ : Q o) (hi : PInv N s) (hN : N ≤ 1000) (hb : b ≤ 9223372036854775807) (K : AV → AH → Prop) (hK : ∀ H', Plx Q H0 H' p (sizeP s o b).1 → K (.int .i64 (sizeP s o b).2) H') :
    CC.call 6 [.ptr (some (p, 0)), .int .i64 o, .int .i64 b] H K := by
  obtain ⟨fl, h1, h2⟩ := h.ex
  have := hi.lenF
  have := hi.lenO o
  refine poolSize_wp h2 hQ (by omega) (by omega) hb K fun H' fl' e hfl hp => hK H' ⟨?_, fl', fun q hq => ?_, hp⟩
  · exact ((h.ext.mono (m' := fl) (by simp)).trans e).mono fun q hq hlt => by have := h1 q hq; omega
  · have := h.ext.next
    rcases hfl q hq with r | r
    · exact h1 q r
    · omega
theorem of_plx {H0 : AH} {p N : Nat} {s : PS} (h : Plx Q H0 H p s) (hi : PInv N s) (hN : N ≤ 1000) (o : Int) (K : AV → AH → Prop) (hK : ∀ H' s' B, Ext [] H H' → Plx Q H0 H' p s → H.next ≤ B → Os 3 .i64 H' B s' (s.of o) → K s' H') :
    CC.call 8 [.ptr (some (p, 0)), .int .i64 o] H K := by
  obtain ⟨fl, h1, h2⟩ := h.ex
  have := hi.lenO o
  exact poolOf_wp h2 o (by omega) K fun H' s' B e hB os => hK H' s' B e (h.mono e) hB os
theorem free_plx {H0 : AH} {p : Nat} {s : PS} (h : Plx Q H0 H p s) (K : AV → AH → Prop) (hK : K (.int .i64 (s.free.length : Int)) H) : CC.call 9 [.ptr (some (p, 0))] H K := by
  obtain ⟨fl, h1, h2⟩ := h.ex
  exact poolFree_wp h2 K hK
theorem Hs.at1 {b : Nat} {s : AV} {L : List (Int × Int)} (h : Hs H b s L) {j : Nat} (hj : j < L.length) : ∃ o, (∀ G : AH, w_indexAddr (.sl 2) G s (.int .i64 j) = some (.val (.ptr (some (b, o))) G)) ∧ b < H.next ∧ ldV (H.get b) o = some (.int .i64 L[j].1) ∧ ldV (H.get b) (o + 1) = some (.int .i64 L[j].2) := by
  obtain ⟨o, h1, h2, h3⟩ := Sl.at h (j := j) (by simpa using hj) .i64
  have e : (L.map hitL)[j]'(by simpa using hj) = hitL L[j] := by simp
  rw [e] at h3
  exact ⟨o, h1, h2, ldV_of (h3 0 _ rfl) rfl rfl, ldV_of (h3 1 _ rfl) rfl rfl⟩
theorem ops_len {b : Nat} {s : AV} {L : List (Int × Int)} (h : Hs H b s L) (G : AH) : w_len PP 22 G s = some (.val (.int .i64 L.length) G) := by
  have := Sl.len (P := PP) h (show PP.underlying 22 = some (.slice 29) by kernel_rfl) G
  rwa [List.length_map] at this
end
end Go.Ab
