/- slices.SortFunc of hits by a closure of plain less, as one step: by the library's proved contract. -/
import Derived.Test.YtjpjmeidpjjgdaaGreatDoorSortP
import Derived.Shelf.SlSortCmp.KitK
namespace Go.Ab
noncomputable section
open Go.Proofs Go.Sort Go.RowKit
variable {P : Program}

def encH (x : Int × Int) : List Value := [.int .i64 x.1, .int .i64 x.2]
def lessH (x y : Int × Int) : Bool := decide (x.2 < y.2) || (decide (x.2 = y.2) && decide (x.1 < y.1))
def cmpH (x y : Int × Int) : Int := if lessH x y then -1 else 1
def sortH (L : List (Int × Int)) : List (Int × Int) := L.mergeSort fun x y => !lessH y x
theorem lessH_iff (x y : Int × Int) : lessH x y = true ↔ x.2 < y.2 ∨ x.2 = y.2 ∧ x.1 < y.1 := by simp [lessH]
theorem ltOf_cmpH : ltOf cmpH = lessH := by
  funext x y
  unfold ltOf cmpH
  cases lessH x y <;> rfl
theorem lessH_no (x y : Int × Int) : lessH x y = false ↔ ¬ (x.2 < y.2 ∨ x.2 = y.2 ∧ x.1 < y.1) := by rw [← lessH_iff]; cases lessH x y <;> simp
theorem swoH : SWO (ltOf cmpH) := by
  rw [ltOf_cmpH]
  refine ⟨fun x => ?_, fun x y z h1 h2 => ?_, fun x y z h1 h2 => ?_⟩
  · rw [lessH_no]; omega
  · rw [lessH_iff] at *; omega
  · rw [lessH_no] at *; omega
theorem sortH_perm (L : List (Int × Int)) : (sortH L).Perm L := List.mergeSort_perm L _
theorem sortH_len (L : List (Int × Int)) : (sortH L).length = L.length := List.length_mergeSort L
def leH (x y : Int × Int) : Prop := lessH y x = false
theorem leH_iff (x y : Int × Int) : leH x y ↔ ¬ (y.2 < x.2 ∨ y.2 = x.2 ∧ y.1 < x.1) := lessH_no y x
theorem sortH_sorted (L : List (Int × Int)) : (sortH L).Pairwise leH :=
  (List.pairwise_mergeSort (le := fun x y => !lessH y x) (fun a b c h1 h2 => by
    simp only [Bool.not_eq_true', lessH_no] at *; omega) (fun a b => by
    rw [Bool.or_eq_true]; simp only [Bool.not_eq_true', lessH_no]; omega) L).imp fun h => by simpa [leH] using h
theorem sortH_uni {L M : List (Int × Int)} (hp : M.Perm L) (hs : M.Pairwise leH) : M = sortH L :=
  List.Perm.eq_of_pairwise (le := leH) (fun a b _ _ h1 h2 => by
    rw [leH_iff] at h1 h2
    exact Prod.ext (by omega) (by omega)) hs (sortH_sorted L) (hp.trans (sortH_perm L).symm)

/-- What is known of slices.SortFunc at hits, at the closure g. -/
def SortsFAt (P : Program) (f g : FuncId) : Prop :=
  ∀ (blk off cap : Nat) (d : Array (Int × Int)) (w : World), HoldsK encH 2 w blk off d → blk < w.heap.size → d.size < 4611686018427387904 →
    Calls P f #[.slice (some ⟨blk, off, none⟩) d.size cap, .func (.func g) #[] #[]] w fun e w' => e = .returned (.tuple #[]) ∧ ∃ d' n os, PermIn 0 d.size d d' ∧ SortedIn (ltOf cmpH) 0 d.size d' ∧ w' = sortWorldK encH 2 w blk off n d' os
def ints2 : List (Int × Int) → List Int
  | [] => []
  | x :: l => x.1 :: x.2 :: ints2 l
theorem ints2_len : ∀ L : List (Int × Int), (ints2 L).length = L.length * 2
  | [] => rfl
  | x :: l => by show (ints2 l).length + 1 + 1 = _; rw [ints2_len l, List.length_cons]; omega
theorem ints2_get : ∀ (L : List (Int × Int)) (t : Nat), t < L.length * 2 → (encH L[t / 2]!)[t % 2]! = .int .i64 (ints2 L)[t]!
  | x :: l, 0, _ => rfl
  | x :: l, 1, _ => rfl
  | x :: l, t + 2, h => by
    rw [List.length_cons] at h
    have := ints2_get l t (by omega)
    have e1 : (t + 2) / 2 = t / 2 + 1 := by omega
    have e2 : (t + 2) % 2 = t % 2 := by omega
    rw [e1, e2]
    exact this
theorem flat_ints (d : Array (Int × Int)) (t : Nat) (h : t < d.size * 2) : (flatK encH 2 d)[t]! = .int .i64 (ints2 d.toList).toArray[t]! := by
  rw [get_flatK _ _ _ _ h]
  have := ints2_get d.toList t (by simpa using h)
  have e1 : d.toList[t / 2]! = d[t / 2]! := by rw [getElem!_pos d.toList (t / 2) (by rw [Array.length_toList]; omega), getElem!_pos d (t / 2) (by omega)]; simp
  have e2 : (ints2 d.toList).toArray[t]! = (ints2 d.toList)[t]! := by rw [getElem!_pos (ints2 d.toList) t (by rw [ints2_len, Array.length_toList]; exact h), getElem!_pos (ints2 d.toList).toArray t (by simp [ints2_len]; exact h)]; simp
  rw [e2, ← e1]; exact this
def hitsA : List AV → Option (List (Int × Int))
  | [] => some []
  | .int .i64 a :: .int .i64 b :: r => ob (hitsA r) fun l => some ((a, b) :: l)
  | _ => none
theorem hitsA_some : ∀ (cs : List AV) {zs : List (Int × Int)}, hitsA cs = some zs → cs = (ints2 zs).map (AV.int .i64)
  | [], zs, h => by cases h; rfl
  | [_], zs, h => by unfold hitsA at h; split at h <;> simp_all
  | x :: y :: r, zs, h => by
    unfold hitsA at h
    split at h
    · simp_all
    · rename_i a b r' e
      rw [ob_eq_some] at h
      obtain ⟨l, h1, h2⟩ := h
      cases h2; cases e
      rw [hitsA_some r h1]; rfl
    · cases h
theorem hitsA_of : ∀ zs : List (Int × Int), hitsA ((ints2 zs).map (AV.int .i64)) = some zs
  | [] => rfl
  | x :: l => by
    show ob (hitsA ((ints2 l).map (AV.int .i64))) (fun r => some ((x.1, x.2) :: r)) = _
    rw [hitsA_of l]; rfl
def sortFA (g : FuncId) (args : List AV) (H : AH) : Option (AV × AH) :=
  match args with
  | [.slice (some (b, o)) n _ _, .fn (.func g') [] []] =>
    match H.get b with
    | some (.cells e cs) => br (Nat.beq g' g && (Nat.ble (o + n * 2) cs.length && Nat.ble n 1000000000)) (ob (hitsA ((cs.drop o).take (n * 2))) fun zs => some (.tup [], H.put b (some (.cells e (cs.take o ++ ((ints2 (sortH zs)).map (AV.int .i64) ++ cs.drop (o + n * 2))))))) none
    | _ => none
  | _ => none
theorem two_args {ρ : Env} {x x2 : AV} {a : Array Value} (h : RelL ρ [x, x2] a.toList) : ∃ y y2, a = #[y, y2] ∧ Rel ρ x y ∧ Rel ρ x2 y2 := by
  obtain ⟨y, ys, e, h1, y2, ys2, e2, h2, h3⟩ := h
  cases h3; subst e2
  exact ⟨y, y2, by rw [← Array.toArray_toList (xs := a), e], h1, h2⟩
theorem row_good {ρ : Env} {H : AH} {w : World} (hr : Real P ρ H w) {b o n : Nat} {e : TypeId} {cs : List AV} {l : Loc} (hcs : H.get b = some (.cells e cs)) (hl : ρ b = some l) (ts : List Int) (hts : ts.length = n) (hle : o + n ≤ cs.length) (k : Nat) :
    Good none P ρ H w ρ (H.put b (some (.cells e (cs.take o ++ (ts.map (AV.int .i64) ++ cs.drop (o + n)))))) (putRow (Value.int .i64) (Sort.ahead w k) l.blk (l.off + o) ts.toArray) := by
  obtain ⟨l', cc, fr, a1, a2, a3, a4, a5, a6, a7⟩ := hr.lies b _ hcs
  rw [hl] at a1; cases a1
  have tl : (cs.take o).length = o := by rw [List.length_take]; omega
  have len : (cs.take o ++ (ts.map (AV.int .i64) ++ cs.drop (o + n))).length = cs.length := by
    rw [List.length_append, List.length_append, List.length_map, List.length_drop, tl]; omega
  have hw1 : (putRow (Value.int .i64) (Sort.ahead w k) l.blk (l.off + o) ts.toArray).heap[l.blk]? = some (.cells (putCells (Value.int .i64) (l.off + o) ts.toArray cc) e fr) := by
    simp [putRow, mapBlock, Sort.ahead, Array.getElem?_modify, a2, onCells]
  have sz : (putCells (Value.int .i64) (l.off + o) ts.toArray cc).size = cc.size := by simp [putCells]
  refine hr.change (by rw [hcs]; simp) hl (by simp) (fun q hq => ?_) ?_ rfl rfl rfl
  · simp [putRow, mapBlock, Sort.ahead, Array.getElem?_modify, Ne.symm hq]
  · refine ⟨l, _, fr, hl, hw1, by rw [sz]; exact a3, by rw [sz, len]; exact a4, fun x hx => ?_, fun i x hx => ?_, fun i v hi1 hi2 hv => ?_, a7.2⟩
    · rcases List.mem_append.1 hx with q | q
      · exact a5 x (List.mem_of_mem_take q)
      · rcases List.mem_append.1 q with q | q
        · obtain ⟨z, _, rfl⟩ := List.mem_map.1 q; rfl
        · exact a5 x (List.mem_of_mem_drop q)
    · rw [putCells_at]
      by_cases c1 : i < o
      · rw [List.getElem?_append_left (by omega), List.getElem?_take, if_pos c1] at hx
        obtain ⟨u, b1, b2⟩ := a6 i x hx
        exact ⟨u, by rw [b1, Option.map_some, if_neg (by omega)], b2⟩
      · rw [List.getElem?_append_right (by omega), tl] at hx
        by_cases c2 : i - o < ts.length
        · rw [List.getElem?_append_left (by rw [List.length_map]; exact c2), List.getElem?_map, List.getElem?_eq_getElem c2] at hx
          cases hx
          obtain ⟨u, b1, _⟩ := a6 i _ (show cs[i]? = some cs[i] from List.getElem?_eq_getElem (by omega))
          refine ⟨_, by rw [b1, Option.map_some, if_pos (by simp; omega)], .inl ?_⟩
          have e1 : l.off + i - (l.off + o) = i - o := by omega
          rw [e1]
          simp [c2]
          rfl
        · rw [List.getElem?_append_right (by rw [List.length_map]; omega), List.length_map, List.getElem?_drop, show o + n + (i - o - ts.length) = i by omega] at hx
          obtain ⟨u, b1, b2⟩ := a6 i x hx
          exact ⟨u, by rw [b1, Option.map_some, if_neg (by simp; omega)], b2⟩
    · rw [len] at hi1 hi2
      rw [putCells_at] at hv
      obtain ⟨u, b1, b2⟩ := Option.map_eq_some_iff.1 hv
      rw [if_neg (by simp; omega)] at b2
      subst b2
      exact a7.1 i _ hi1 hi2 b1
theorem putRow_flat (w : World) (blk off : Nat) (d : Array (Int × Int)) : putRowK encH 2 w blk off d = putRow (Value.int .i64) w blk off (ints2 d.toList).toArray := by
  have sz : (ints2 d.toList).toArray.size = d.size * 2 := by simp [ints2_len]
  unfold putRowK putRow
  congr 1
  funext c
  unfold putCells
  rw [size_flatK, sz]
  congr 1
  funext k x
  by_cases q : off ≤ k ∧ k < off + d.size * 2
  · rw [if_pos q, if_pos q]
    exact flat_ints d _ (by omega)
  · rw [if_neg q, if_neg q]
theorem perm_all {d d' : Array (Int × Int)} (h : PermIn 0 d.size d d') : d'.toList.Perm d.toList ∧ d'.size = d.size := by
  obtain ⟨h1, _, h3⟩ := h
  have e1 : d.extract 0 d.size = d := by simp
  have e2 : d'.extract 0 d.size = d' := by rw [← h1]; simp
  rw [e1, e2] at h3
  exact ⟨h3, h1⟩
theorem sorted_all {d' : Array (Int × Int)} {n : Nat} (hn : d'.size = n) (h : SortedIn (ltOf cmpH) 0 n d') : d'.toList.Pairwise leH := by
  rw [List.pairwise_iff_getElem]
  intro i j hi hj hij
  have := h i j (Nat.zero_le _) hij (by rw [← hn]; simpa using hj)
  rw [ltOf_cmpH] at this
  rw [getElem!_pos d' j (by simpa using hj), getElem!_pos d' i (by simpa using hi)] at this
  exact this
theorem sortF_at {f g : FuncId} (hb : hasBody P f = true) (h : SortsFAt P f g) : PrimAt P f (sortFA g) := by
  intro args args' ρ H w v H' hg hr ha
  refine ⟨fun _ m => ?_, fun q => (by rw [hb] at q; cases q)⟩
  unfold sortFA at hg
  split at hg
  · rename_i b o n c ex g'
    split at hg
    · rename_i e cs hcs
      rw [br_some_none, Bool.and_eq_true, Bool.and_eq_true, Nat.ble_eq, Nat.ble_eq, ob_eq_some] at hg
      obtain ⟨⟨hgg, hle, hn9⟩, zs, hz, hg⟩ := hg
      obtain rfl := Nat.eq_of_beq_eq_true hgg
      simp only [Option.some.injEq, Prod.mk.injEq] at hg
      obtain ⟨rfl, rfl⟩ := hg
      have seg := hitsA_some _ hz
      have hzl : zs.length = n := by
        have := congrArg List.length seg
        rw [List.length_map, ints2_len, List.length_take, List.length_drop] at this
        omega
      obtain ⟨y, y2, rfl, ⟨l, hl, rfl⟩, a0, c0, rfl, ha0, hc0⟩ := two_args ha
      cases ha0; cases hc0
      obtain ⟨l', cc, fr, a1, a2, a3, a4, a5, a6, a7⟩ := hr.lies b _ hcs
      rw [hl] at a1; cases a1
      have cell : ∀ j z, (ints2 zs)[j]? = some z → cc[l.off + o + j]? = some (.int .i64 z) := fun j z hj => by
        have hcj : cs[o + j]? = some (.int .i64 z) := by
          have e := congrArg (fun l : List AV => l[j]?) seg
          simp only [List.getElem?_map, hj, Option.map_some] at e
          rw [List.getElem?_take] at e
          split at e
          · rw [List.getElem?_drop] at e; exact e
          · cases e
        obtain ⟨v, b1, b2⟩ := a6 _ _ hcj
        rw [Nat.add_assoc, b1]
        rcases b2 with b2 | ⟨b2, _⟩
        · cases b2; rfl
        · cases b2
      have hH : HoldsK encH 2 w l.blk (l.off + o) zs.toArray := by
        intro j hj
        rw [size_flatK] at hj
        have hj2 : j < (ints2 zs).length := by rw [ints2_len]; simpa using hj
        refine ⟨?_, thawed_frozen a2 a3 (by rw [ints2_len] at hj2; omega)⟩
        have := cell j _ (List.getElem?_eq_getElem hj2)
        simp only [World.cell?, a2]
        simp only [Option.isSome_none, Bool.false_eq_true, if_false]
        rw [this, flat_ints _ _ hj]
        simp [hj2]
      have hblk : l.blk < w.heap.size := hr.inb (by rw [hcs]; simp) hl
      have run := h l.blk (l.off + o) (if ex then c else c + l.spare) zs.toArray w hH hblk (by simp; omega)
      simp only [List.size_toArray] at run
      rw [hzl] at run
      refine (callsIn_wide.2 run).mono ?_
      rintro en w' ⟨rfl, d', k, os, hp, hs, rfl⟩
      refine ⟨ρ, ⟨[], rfl, rfl⟩, ?_⟩
      have hp' : PermIn 0 zs.toArray.size zs.toArray d' := by simpa [hzl] using hp
      obtain ⟨p1, p2⟩ := perm_all hp'
      have e : d'.toList = sortH zs := sortH_uni (by simpa using p1) (sorted_all (by simpa [hzl] using p2) hs)
      show Good none P ρ H w ρ _ (grow (putRowK encH 2 (Sort.ahead w k) l.blk (l.off + o) d') os)
      rw [putRow_flat, e]
      have g := row_good hr hcs hl (o := o) (n := n * 2) (ints2 (sortH zs)) (by rw [ints2_len, sortH_len, hzl]) hle k
      exact g.trans (Good.grown g.real os)
    · cases hg
  · cases hg
end
end Go.Ab
