/- slices.Sort of integers, as one step: by the library's proved contract. -/
import Derived.Test.YtlbjmgpbgkiejaaGreatDoorEv3
import Derived.Shelf.SortM.Plain
import Derived.Shelf.SortM.SortNone
namespace Go.Ab
noncomputable section
open Go.Proofs Go.Sort Go.RowKit
variable {P : Program}

theorem Good.grown {ρ : Env} {H : AH} {w : World} (h : Real P ρ H w) (os : Array Obj) : Good none P ρ H w ρ H (Sort.grow w os) := by
  have key : ∀ k, k < w.heap.size → (Sort.grow w os).heap[k]? = w.heap[k]? := fun k hk => heap_grow_old w os hk
  refine ⟨⟨fun b x hb => ?_, h.inj, h.fresh, h.glob'⟩, .refl ρ, Nat.le_refl _, by simp, fun b l h1 h2 _ => ⟨b, l, h1, h2, rfl⟩, fun B hB _ => key B hB, rfl, rfl, rfl, fun _ _ h _ => h⟩
  exact (h.lies b x hb).mono (.refl ρ) fun l hl => key _ (h.inb (by rw [hb]; simp) hl)

/-- What is known of slices.Sort at []int. -/
structure SortsAt (P : Program) (f : FuncId) : Prop where
  some : ∀ (blk off cap : Nat) (zs : List Int) (w : World), Holds (Value.int .i64) w blk off zs.toArray → blk < w.heap.size → zs.length < 4611686018427387904 →
    Calls P f #[.slice (some ⟨blk, off, none⟩) zs.length cap] w fun e w' => e = .returned (.tuple #[]) ∧ ∃ n os, w' = grow (putRow (Value.int .i64) (Sort.ahead w n) blk off (zs.mergeSort fun x y => decide (x ≤ y)).toArray) os
  none : ∀ (p : Option Addr) (cap : Nat) (w : World), Calls P f #[.slice p 0 cap] w fun e w' => e = .returned (.tuple #[]) ∧ w' = w
def intA : AV → Option Int
  | .int .i64 n => some n
  | _ => none
theorem intA_some {x : AV} {z : Int} (h : intA x = some z) : x = .int .i64 z := by
  unfold intA at h
  split at h
  · cases h; rfl
  · cases h
def sortZ (zs : List Int) : List Int := zs.mergeSort fun x y => decide (x ≤ y)
theorem sortZ_len (zs : List Int) : (sortZ zs).length = zs.length := List.length_mergeSort zs
def sortA (args : List AV) (H : AH) : Option (AV × AH) :=
  match args with
  | [.slice none 0 _ _] => some (.tup [], H)
  | [.tail _ _] => some (.tup [], H)
  | [.slice (some (b, o)) n _ _] =>
    match H.get b with
    | some (.cells e cs) => br (Nat.ble (o + n) cs.length && Nat.ble n 1000000000) (ob (allM intA ((cs.drop o).take n)) fun zs => some (.tup [], H.put b (some (.cells e (cs.take o ++ ((sortZ zs).map (AV.int .i64) ++ cs.drop (o + n))))))) none
    | _ => none
  | _ => none
theorem seg_ints {cs : List AV} {o n : Nat} {zs : List Int} (h : ((cs.drop o).take n).map intA = zs.map some) (j : Nat) (z : Int) (hj : zs[j]? = some z) : cs[o + j]? = some (.int .i64 z) := by
  have e := congrArg (fun l : List (Option Int) => l[j]?) h
  simp only [List.getElem?_map, hj, Option.map_some] at e
  rw [List.getElem?_take] at e
  split at e
  · rw [List.getElem?_drop] at e
    obtain ⟨x, e1, e2⟩ := Option.map_eq_some_iff.1 e
    rw [e1, intA_some e2]
  · cases e
theorem putCells_at (d : Array Int) (off k : Nat) (c : Array Value) : (putCells (Value.int .i64) off d c)[k]? = (c[k]?).map fun x => if off ≤ k ∧ k < off + d.size then Value.int .i64 d[k - off]! else x := by
  simp [putCells]
theorem one_arg {ρ : Env} {x : AV} {a : Array Value} (h : RelL ρ [x] a.toList) : ∃ y, a = #[y] ∧ Rel ρ x y := by
  obtain ⟨y, ys, e, h1, h2⟩ := h
  cases h2
  exact ⟨y, by rw [← Array.toArray_toList (xs := a), e], h1⟩
theorem sort_at {f : FuncId} (hb : hasBody P f = true) (h : SortsAt P f) : PrimAt P f sortA := by
  intro args args' ρ H w v H' hg hr ha
  refine ⟨fun _ m => ?_, fun q => (by rw [hb] at q; cases q)⟩
  unfold sortA at hg
  split at hg
  · cases hg
    obtain ⟨y, rfl, hy⟩ := one_arg ha
    cases hy
    refine (callsIn_wide.2 (h.none _ _ w)).mono ?_
    rintro e w' ⟨rfl, rfl⟩
    exact ⟨ρ, ⟨[], rfl, rfl⟩, hr.good⟩
  · cases hg
    obtain ⟨y, rfl, a, cap, rfl, _⟩ := one_arg ha
    refine (callsIn_wide.2 (h.none _ _ w)).mono ?_
    rintro e w' ⟨rfl, rfl⟩
    exact ⟨ρ, ⟨[], rfl, rfl⟩, hr.good⟩
  · rename_i b o n c ex
    split at hg
    · rename_i e cs hcs
      rw [br_some_none, Bool.and_eq_true, Nat.ble_eq, Nat.ble_eq, ob_eq_some] at hg
      obtain ⟨⟨hle, hn9⟩, zs, hz, hg⟩ := hg
      simp only [Option.some.injEq, Prod.mk.injEq] at hg
      obtain ⟨rfl, rfl⟩ := hg
      rw [allM_eq_some] at hz
      have hzl : zs.length = n := by
        have := congrArg List.length hz
        rw [List.length_map, List.length_map, List.length_take, List.length_drop] at this
        omega
      have seg := seg_ints hz
      obtain ⟨y, rfl, l, hl, rfl⟩ := one_arg ha
      obtain ⟨l', cc, fr, a1, a2, a3, a4, a5, a6, a7⟩ := hr.lies b _ hcs
      rw [hl] at a1; cases a1
      have cell : ∀ j z, zs[j]? = some z → cc[l.off + o + j]? = some (.int .i64 z) := fun j z hj => by
        obtain ⟨v, b1, b2⟩ := a6 _ _ (seg j z hj)
        rw [Nat.add_assoc, b1]
        rcases b2 with b2 | ⟨b2, _⟩
        · cases b2; rfl
        · cases b2
      have hH : Holds (Value.int .i64) w l.blk (l.off + o) zs.toArray := by
        intro j hj
        have hj' : j < zs.length := by simpa using hj
        refine ⟨?_, thawed_frozen a2 a3 (by omega)⟩
        have := cell j _ (List.getElem?_eq_getElem hj')
        simp only [World.cell?, a2]
        simp only [Option.isSome_none, Bool.false_eq_true, if_false]
        rw [this]
        simp [hj']
      have hblk : l.blk < w.heap.size := hr.inb (by rw [hcs]; simp) hl
      have run := h.some l.blk (l.off + o) (if ex then c else c + l.spare) zs w hH hblk (by omega)
      rw [hzl] at run
      refine (callsIn_wide.2 run).mono ?_
      rintro en w' ⟨rfl, k, os, rfl⟩
      refine ⟨ρ, ⟨[], rfl, rfl⟩, ?_⟩
      show Good none P ρ H w ρ _ (grow (putRow (Value.int .i64) (Sort.ahead w k) l.blk (l.off + o) (sortZ zs).toArray) os)
      have hsl := sortZ_len zs
      generalize sortZ zs = ts at *
      have g : Good none P ρ H w ρ (H.put b (some (.cells e (cs.take o ++ (ts.map (AV.int .i64) ++ cs.drop (o + n)))))) (putRow (Value.int .i64) (Sort.ahead w k) l.blk (l.off + o) ts.toArray) := by
        have tl : (cs.take o).length = o := by rw [List.length_take]; omega
        have len : (cs.take o ++ (ts.map (AV.int .i64) ++ cs.drop (o + n))).length = cs.length := by
          rw [List.length_append, List.length_append, List.length_map, List.length_drop, tl]; omega
        have hw1 : (putRow (Value.int .i64) (Sort.ahead w k) l.blk (l.off + o) ts.toArray).heap[l.blk]? = some (.cells (putCells (Value.int .i64) (l.off + o) ts.toArray cc) e fr) := by
          simp [putRow, mapBlock, Sort.ahead, Array.getElem?_modify, a2, onCells]
        have sz : (putCells (Value.int .i64) (l.off + o) ts.toArray cc).size = cc.size := by simp [putCells]
        refine hr.change (by rw [hcs]; simp) hl (by simp) (fun q hq => ?_) ?_ rfl rfl rfl
        · simp [putRow, mapBlock, Sort.ahead, Array.getElem?_modify, Ne.symm hq]
        · refine ⟨l, _, fr, hl, hw1, by rw [sz]; exact a3, by rw [sz, len]; exact a4, fun x hx => ?_, fun i x hx => ?_, fun i v hi1 hi2 hv => ?_, a7.2⟩
          · rcases List.mem_append.1 hx with q | q
            · exact a5 x (List.mem_of_mem_take q)
            · rcases List.mem_append.1 q with q | q
              · obtain ⟨z, _, rfl⟩ := List.mem_map.1 q; rfl
              · exact a5 x (List.mem_of_mem_drop q)
          · rw [putCells_at]
            by_cases c1 : i < o
            · rw [List.getElem?_append_left (by omega), List.getElem?_take, if_pos c1] at hx
              obtain ⟨u, b1, b2⟩ := a6 i x hx
              exact ⟨u, by rw [b1, Option.map_some, if_neg (by omega)], b2⟩
            · rw [List.getElem?_append_right (by omega), tl] at hx
              by_cases c2 : i - o < ts.length
              · rw [List.getElem?_append_left (by rw [List.length_map]; exact c2), List.getElem?_map, List.getElem?_eq_getElem c2] at hx
                cases hx
                obtain ⟨u, b1, _⟩ := a6 i _ (show cs[i]? = some cs[i] from List.getElem?_eq_getElem (by omega))
                refine ⟨_, by rw [b1, Option.map_some, if_pos (by simp; omega)], .inl ?_⟩
                have e1 : l.off + i - (l.off + o) = i - o := by omega
                rw [e1]
                simp [c2]
                rfl
              · rw [List.getElem?_append_right (by rw [List.length_map]; omega), List.length_map, List.getElem?_drop, show o + n + (i - o - ts.length) = i by omega] at hx
                obtain ⟨u, b1, b2⟩ := a6 i x hx
                exact ⟨u, by rw [b1, Option.map_some, if_neg (by simp; omega)], b2⟩
          · rw [len] at hi1 hi2
            rw [putCells_at] at hv
            obtain ⟨u, b1, b2⟩ := Option.map_eq_some_iff.1 hv
            rw [if_neg (by simp; omega)] at b2
            subst b2
            exact a7.1 i _ hi1 hi2 b1
      exact g.trans (Good.grown g.real os)
    · cases hg
  · cases hg
end
end Go.Ab
