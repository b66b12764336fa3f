/- Blocks: what some calls come to. -/
import Derived.Test.YtbahknfffhijlaaGreatDoorPoolLaw
namespace Go.Ab
set_option maxRecDepth 10000

/-- Numbers in a row: from lo on, up to hi. -/
def segI (lo hi : Int) : List Int := (List.range (hi - lo).toNat).map fun i : Nat => lo + (i : Int)
theorem seg_len (lo hi : Int) : (segI lo hi).length = (hi - lo).toNat := by simp [segI]
theorem seg_up (lo hi : Int) : Up (segI lo hi) := by
  unfold segI
  rw [Up, List.pairwise_map]
  exact List.pairwise_lt_range.imp fun h => by omega
theorem mem_seg {lo hi x : Int} : x ∈ segI lo hi ↔ lo ≤ x ∧ x < hi := by
  unfold segI
  rw [List.mem_map]
  constructor
  · rintro ⟨i, hi', rfl⟩
    have := List.mem_range.1 hi'
    omega
  · rintro ⟨h1, h2⟩
    exact ⟨(x - lo).toNat, List.mem_range.2 (by omega), by omega⟩
theorem segI_get {lo hi : Int} {i : Nat} (h : (i : Int) < hi - lo) : (segI lo hi)[i]? = some (lo + i) := by
  unfold segI
  rw [List.getElem?_map, List.getElem?_range (by omega)]; rfl
theorem seg_take {lo hi : Int} {k : Nat} (h : lo + k ≤ hi) : (segI lo hi).take k = segI lo (lo + k) := by
  refine List.ext_getElem? fun i => ?_
  rw [List.getElem?_take]
  by_cases c : i < k
  · rw [if_pos c, segI_get (by omega), segI_get (by omega)]
  · rw [if_neg c, List.getElem?_eq_none (by rw [seg_len]; omega)]
theorem seg_drop {lo hi : Int} {k : Nat} (_h : lo + k ≤ hi) : (segI lo hi).drop k = segI (lo + k) hi := by
  refine List.ext_getElem? fun i => ?_
  rw [List.getElem?_drop]
  by_cases c : lo + ((k + i : Nat) : Int) < hi
  · rw [segI_get (by omega), segI_get (by omega)]; congr 1; omega
  · rw [List.getElem?_eq_none (by rw [seg_len]; omega), List.getElem?_eq_none (by rw [seg_len]; omega)]
theorem start_seg (n : Nat) : (startP n).free = segI 0 n := by
  refine up_ext (range_up n) (seg_up _ _) fun x => ?_
  rw [mem_seg]
  show (x ∈ (List.range n).map fun i : Nat => (i : Int)) ↔ _
  rw [List.mem_map]
  exact ⟨fun ⟨i, hi, q⟩ => by have := List.mem_range.1 hi; omega, fun q => ⟨x.toNat, List.mem_range.2 (by omega), by omega⟩⟩
/-- Who has none takes the least ones. -/
theorem size_take {s : PS} {o b : Int} (hu : Up s.free) (h0 : s.of o = []) (h1 : 0 ≤ b) (h2 : b ≤ (s.free.length : Int)) : sizeP s o b = (⟨s.free.drop b.toNat, updP s.of o (s.free.take b.toNat)⟩, 0) := by
  unfold sizeP
  rw [h0, if_neg (show ¬ b < 0 by omega)]
  have e : b - (([] : List Int).length : Int) = b := by simp
  rw [e, if_neg (show ¬ (s.free.length : Int) < b by omega)]
  by_cases c : b = 0
  · subst c
    rw [if_neg (by simp)]
    show (PS.mk (sortZ (s.free ++ [])) (updP s.of o (sortZ [])), (0 : Int)) = _
    rw [List.append_nil, sortZ_id hu, sortZ_id (L := []) List.Pairwise.nil]; rfl
  · rw [if_pos (by simp; omega), List.nil_append, sortZ_id (up_drop hu _), sortZ_id (up_take hu _)]
/-- Less: the greatest ones go back. -/
theorem size_back {s : PS} {o b : Int} (hu : Up (s.of o)) (h1 : 0 ≤ b) (h2 : b ≤ ((s.of o).length : Int)) : sizeP s o b = (⟨sortZ (s.free ++ (s.of o).drop b.toNat), updP s.of o ((s.of o).take b.toNat)⟩, 0) := by
  unfold sizeP
  rw [if_neg (show ¬ b < 0 by omega), if_neg (show ¬ (s.free.length : Int) < b - ((s.of o).length : Int) by omega), if_neg (show ¬ ((s.of o).length : Int) < b by omega), sortZ_id (up_take hu _)]

def leastP (a b c : Int) : PS := (sizeP (sizeP (sizeP (sizeP (startP 100) 1 a).1 2 b).1 1 (a / 2)).1 3 c).1
theorem least_law {a b c : Int} (ha : 0 ≤ a ∧ a < 20) (hb : 0 ≤ b ∧ b < 20) (hc : 0 ≤ c ∧ c < 20) :
    (leastP a b c).of 3 = (segI (a / 2) a ++ segI (a + b) 100).take c.toNat ∧ (leastP a b c).of 1 = segI 0 (a / 2) ∧ (leastP a b c).of 2 = segI a (a + b) := by
  have u100 := seg_up 0 100
  have e1 : (sizeP (startP 100) 1 a).1 = ⟨segI a 100, updP (fun _ => []) 1 (segI 0 a)⟩ := by
    rw [size_take (by rw [start_seg]; exact seg_up _ _) rfl ha.1 (by rw [start_seg, seg_len]; omega), start_seg]
    show PS.mk _ _ = _
    rw [seg_drop (by omega), seg_take (by omega), show (0 : Int) + (a.toNat : Int) = a by omega]; rfl
  have e2 : (sizeP ⟨segI a 100, updP (fun _ => []) 1 (segI 0 a)⟩ 2 b).1 = ⟨segI (a + b) 100, updP (updP (fun _ => []) 1 (segI 0 a)) 2 (segI a (a + b))⟩ := by
    rw [size_take (seg_up _ _) (show updP (fun _ => []) 1 (segI 0 a) 2 = [] by rw [updP_other _ _ (by decide)]) hb.1 (by show b ≤ ((segI a 100).length : Int); rw [seg_len]; omega)]
    show PS.mk _ _ = _
    rw [seg_drop (by omega), seg_take (by omega), show a + (b.toNat : Int) = a + b by omega]
  have o1 : (updP (updP (fun _ => []) 1 (segI 0 a)) 2 (segI a (a + b))) 1 = segI 0 a := by rw [updP_other _ _ (by decide), updP_same]
  have e3 : (sizeP ⟨segI (a + b) 100, updP (updP (fun _ => []) 1 (segI 0 a)) 2 (segI a (a + b))⟩ 1 (a / 2)).1 = ⟨segI (a / 2) a ++ segI (a + b) 100, updP (updP (updP (fun _ => []) 1 (segI 0 a)) 2 (segI a (a + b))) 1 (segI 0 (a / 2))⟩ := by
    rw [size_back (show Up (updP (updP (fun _ => []) 1 (segI 0 a)) 2 (segI a (a + b)) 1) by rw [o1]; exact seg_up _ _) (by omega) (show a / 2 ≤ ((updP (updP (fun _ => []) 1 (segI 0 a)) 2 (segI a (a + b)) 1).length : Int) by rw [o1, seg_len]; omega)]
    show PS.mk (sortZ (segI (a + b) 100 ++ (updP (updP (fun _ => []) 1 (segI 0 a)) 2 (segI a (a + b)) 1).drop (a / 2).toNat)) (updP _ 1 ((updP (updP (fun _ => []) 1 (segI 0 a)) 2 (segI a (a + b)) 1).take (a / 2).toNat)) = _
    rw [o1, seg_drop (by omega), seg_take (by omega), show (0 : Int) + ((a / 2).toNat : Int) = a / 2 by omega]
    have hup : Up (segI (a / 2) a ++ segI (a + b) 100) := List.pairwise_append.2 ⟨seg_up _ _, seg_up _ _, fun x hx y hy => by
      have := mem_seg.1 hx
      have := mem_seg.1 hy
      omega⟩
    congr 1
    refine up_ext (sortZ_up ?_) hup fun x => ?_
    · exact ((List.perm_append_comm).nodup_iff).1 (up_nodup hup)
    · rw [mem_sortZ, List.mem_append, List.mem_append]
      exact Or.comm
  have hup : Up (segI (a / 2) a ++ segI (a + b) 100) := List.pairwise_append.2 ⟨seg_up _ _, seg_up _ _, fun x hx y hy => by
      have := mem_seg.1 hx
      have := mem_seg.1 hy
      omega⟩
  have e4 : leastP a b c = ⟨(segI (a / 2) a ++ segI (a + b) 100).drop c.toNat, updP (updP (updP (updP (fun _ => []) 1 (segI 0 a)) 2 (segI a (a + b))) 1 (segI 0 (a / 2))) 3 ((segI (a / 2) a ++ segI (a + b) 100).take c.toNat)⟩ := by
    unfold leastP
    rw [e1, e2, e3, size_take hup (show updP (updP (updP (fun _ => []) 1 (segI 0 a)) 2 (segI a (a + b))) 1 (segI 0 (a / 2)) 3 = [] by rw [updP_other _ _ (by decide), updP_other _ _ (by decide), updP_other _ _ (by decide)]) hc.1 (by show c ≤ ((segI (a / 2) a ++ segI (a + b) 100).length : Int); rw [List.length_append, seg_len, seg_len]; omega)]
  rw [e4]
  refine ⟨updP_same (updP (updP (updP (fun _ => []) 1 (segI 0 a)) 2 (segI a (a + b))) 1 (segI 0 (a / 2))) 3 _, ?_, ?_⟩
  · show updP (updP (updP (updP (fun _ => []) 1 (segI 0 a)) 2 (segI a (a + b))) 1 (segI 0 (a / 2))) 3 ((segI (a / 2) a ++ segI (a + b) 100).take c.toNat) 1 = _
    rw [updP_other _ _ (by decide), updP_same]
  · show updP (updP (updP (updP (fun _ => []) 1 (segI 0 a)) 2 (segI a (a + b))) 1 (segI 0 (a / 2))) 3 ((segI (a / 2) a ++ segI (a + b) 100).take c.toNat) 2 = _
    rw [updP_other _ _ (by decide), updP_other _ _ (by decide), updP_same]
theorem least_at {a b c : Int} {i : Nat} (ha : 0 ≤ a ∧ a < 20) (hb : 0 ≤ b ∧ b < 20) (hc : 0 ≤ c ∧ c < 20) (hi : (i : Int) < c) :
    ((segI (a / 2) a ++ segI (a + b) 100).take c.toNat)[i]? = some (if a - a / 2 ≤ i then a + b + i - (a - a / 2) else a / 2 + i) := by
  rw [List.getElem?_take, if_pos (by omega)]
  by_cases d : a - a / 2 ≤ i
  · rw [if_pos d, List.getElem?_append_right (by rw [seg_len]; omega), seg_len, segI_get (by omega)]
    congr 1; omega
  · rw [if_neg d, List.getElem?_append_left (by rw [seg_len]; omega), segI_get (by omega)]
theorem least_len {a b c : Int} (ha : 0 ≤ a ∧ a < 20) (hb : 0 ≤ b ∧ b < 20) (hc : 0 ≤ c ∧ c < 20) : ((segI (a / 2) a ++ segI (a + b) 100).take c.toNat).length = c.toNat := by
  rw [List.length_take, List.length_append, seg_len, seg_len]; omega

/-! Who gives back what it took. -/
theorem turn_law {N : Nat} {s : PS} (h : PInv N s) {o k : Int} (h0 : s.of o = []) (hk : 0 ≤ k) :
    ((sizeP s o k).2 = 0 ↔ k ≤ (s.free.length : Int)) ∧ ((sizeP s o k).2 ≠ 0 → (sizeP s o k) = (s, 6)) ∧
    ((sizeP s o k).2 = 0 → ((sizeP s o k).1.free.length : Int) = (s.free.length : Int) - k ∧ (((sizeP s o k).1.of o).length : Int) = k) ∧
    (sizeP (sizeP s o k).1 o 0).2 = 0 ∧ (sizeP (sizeP s o k).1 o 0).1.free.length = s.free.length ∧ (sizeP (sizeP s o k).1 o 0).1.of o = [] ∧ (sizeP (sizeP (sizeP s o k).1 o 0).1 o (-1)).2 = 2 := by
  have neg : ∀ s : PS, (sizeP s o (-1)).2 = 2 := fun s => by unfold sizeP; rw [if_pos (by decide)]
  by_cases c : k ≤ (s.free.length : Int)
  · have e := size_take h.upF h0 hk c
    have hb : sizeP (sizeP s o k).1 o 0 = _ := size_back (size_inv h o k |>.upO o) (Int.le_refl _) (by omega)
    rw [hb, e]
    refine ⟨⟨fun _ => c, fun _ => rfl⟩, fun q => absurd rfl q, fun _ => ⟨?_, ?_⟩, rfl, ?_, ?_, neg _⟩
    · show ((s.free.drop k.toNat).length : Int) = _
      rw [List.length_drop]; omega
    · show ((updP _ _ _ _).length : Int) = _
      rw [updP_same, List.length_take]; omega
    · show (sortZ (s.free.drop k.toNat ++ (updP s.of o (s.free.take k.toNat) o).drop 0)).length = _
      rw [sortZ_le, updP_same, List.drop_zero, List.length_append, List.length_drop, List.length_take]; omega
    · show updP _ o ((updP _ _ _ _).take 0) o = _
      rw [updP_same, List.take_zero]
  · have e : sizeP s o k = (s, 6) := by
      unfold sizeP
      rw [h0, if_neg (show ¬ k < 0 by omega), if_pos (by simp; omega)]
    have hb : sizeP s o 0 = _ := size_back (h.upO o) (Int.le_refl _) (by omega)
    rw [e]
    refine ⟨⟨fun q => absurd (show (6 : Int) = 0 from q) (by decide), fun q => absurd q c⟩, fun _ => rfl, fun q => absurd (show (6 : Int) = 0 from q) (by decide), ?_, ?_, ?_, neg _⟩
    · show (sizeP s o 0).2 = 0
      rw [hb]
    · show (sizeP s o 0).1.free.length = _
      rw [hb]
      show (sortZ (s.free ++ (s.of o).drop 0)).length = _
      rw [sortZ_le, h0]; simp
    · show (sizeP s o 0).1.of o = _
      rw [hb]
      show updP _ o ((s.of o).take 0) o = _
      rw [updP_same, List.take_zero]
theorem size_other {s : PS} {o b x : Int} (h : x ≠ o) : (sizeP s o b).1.of x = s.of x := by
  unfold sizeP
  split
  · rfl
  · split
    · rfl
    · split
      · exact updP_other _ _ h
      · exact updP_other _ _ h
/-- All of them together: as many as there are. -/
theorem whole_count {N : Nat} {s : PS} (h : PInv N s) {l : List Int} (hl : l.Nodup) (hall : ∀ o, s.of o ≠ [] → o ∈ l) : (l.flatMap s.of).Nodup ∧ (l.flatMap s.of).length + s.free.length = N := by
  have nd : (l.flatMap s.of).Nodup := by
    clear hall
    induction l with
    | nil => exact List.Pairwise.nil
    | cons o l ih =>
      have hl' := List.nodup_cons.1 hl
      rw [List.flatMap_cons, List.nodup_append]
      refine ⟨up_nodup (h.upO o), ih hl'.2, fun x hx y hy q => ?_⟩
      subst q
      obtain ⟨o', ho', hx'⟩ := List.mem_flatMap.1 hy
      exact hl'.1 (h.apO _ _ _ hx hx' ▸ ho')
  refine ⟨nd, ?_⟩
  have nd2 : (l.flatMap s.of ++ s.free).Nodup := by
    rw [List.nodup_append]
    refine ⟨nd, up_nodup h.upF, fun x hx y hy q => ?_⟩
    subst q
    obtain ⟨o', _, hx'⟩ := List.mem_flatMap.1 hx
    exact h.apF _ _ hx' hy
  have e : sortZ (l.flatMap s.of ++ s.free) = (startP N).free := by
    refine up_ext (sortZ_up nd2) (range_up N) fun x => ?_
    rw [mem_sortZ, List.mem_append, start_seg, mem_seg]
    constructor
    · rintro (q | q)
      · obtain ⟨o', _, hx'⟩ := List.mem_flatMap.1 q
        exact h.inO _ _ hx'
      · exact h.inF _ q
    · rintro ⟨h1, h2⟩
      rcases h.all x h1 h2 with q | ⟨o, q⟩
      · exact .inr q
      · exact .inl (List.mem_flatMap.2 ⟨o, hall o (fun r => by rw [r] at q; exact List.not_mem_nil q), q⟩)
  have := congrArg List.length e
  rw [sortZ_le, List.length_append] at this
  rw [this]
  simp [startP]
end Go.Ab
