/- Each operation, evaluated, is what the operation does (seventh part: builtins). -/
import Derived.Test.YtoafnnphjbdedaaGreatDoorAbK
import Derived.Laws.AppendOwn
namespace Go.Ab
variable {P : Program} {ρ : Env} {H : AH} {w : World} {at_ : Option Nat} {W : Tmp → Prop}

/-- A block goes, and its cells go on as a new one. -/
theorem Real.move (h : Real P ρ H w) {b : Nat} {x : ABlk} {l l' : Loc} {w' : World} (hb : H.get b ≠ none) (hl : ρ b = some l) (hl' : l'.blk = l.blk) (hs : w'.heap.size = w.heap.size)
    (ho : ∀ k, k ≠ l.blk → w'.heap[k]? = w.heap[k]?) (hx : Lies P (ρ.with H.next l') w' H.next x) (e1 : w'.os = w.os) (e2 : w'.tape = w.tape) (e3 : w'.output = w.output) :
    Good at_ P ρ H w (ρ.with H.next l') (newH (H.put b none) none x) w' := by
  have hf : ρ H.next = none := h.fresh _ (Nat.le_refl _)
  have hle : Le ρ (ρ.with H.next l') := le_with hf
  have hne : b ≠ H.next := fun e => by rw [e, hf] at hl; cases hl
  have hg : ∀ c, (newH (H.put b none) none x).get c = if c = H.next then some x else if c = b then none else H.get c := by
    intro c
    rw [get_newH, AH.get_put]
    rfl
  have hnx : (newH (H.put b none) none x).next = H.next + 1 := by simp [newH, AH.newTo_none]
  have old : ∀ c y, c ≠ H.next → (newH (H.put b none) none x).get c = some y → c ≠ b ∧ H.get c = some y := by
    intro c y hc hy
    rw [hg, if_neg hc] at hy
    split at hy
    · cases hy
    · exact ⟨by assumption, hy⟩
  have apart : ∀ c m, c ≠ b → H.get c ≠ none → ρ c = some m → m.blk ≠ l.blk := fun c m hc hn hm e => hc (h.inj c b m l hn hb hm hl e)
  have hw : ∀ c, c ≠ H.next → (ρ.with H.next l') c = ρ c := fun c hc => by simp [Env.with, hc]
  have hwn : (ρ.with H.next l') H.next = some l' := with_same _ _
  refine ⟨⟨fun c y hc => ?_, fun c c' m m' hc hc' hm hm' e => ?_, fun c hc => ?_, fun g hgl => hle _ _ (h.glob' g hgl)⟩, ?_⟩
  · by_cases hcn : c = H.next
    · subst hcn; rw [hg, if_pos rfl] at hc; cases hc; exact hx
    · obtain ⟨h1, h2⟩ := old c y hcn hc
      exact (h.lies c y h2).mono hle fun m hm => ho _ (apart c m h1 (by rw [h2]; simp) hm)
  · by_cases hcn : c = H.next <;> by_cases hcn' : c' = H.next
    · rw [hcn, hcn']
    · subst hcn
      rw [hwn] at hm; cases hm
      rw [hw _ hcn'] at hm'
      obtain ⟨y, hy⟩ := Option.ne_none_iff_exists'.1 hc'
      obtain ⟨h1, h2⟩ := old _ y hcn' hy
      exact absurd (by rw [← e, hl']) (apart c' m' h1 (by rw [h2]; simp) hm')
    · subst hcn'
      rw [hwn] at hm'; cases hm'
      rw [hw _ hcn] at hm
      obtain ⟨y, hy⟩ := Option.ne_none_iff_exists'.1 hc
      obtain ⟨h1, h2⟩ := old _ y hcn hy
      exact absurd (by rw [e, hl']) (apart c m h1 (by rw [h2]; simp) hm)
    · rw [hw _ hcn] at hm
      rw [hw _ hcn'] at hm'
      obtain ⟨y, hy⟩ := Option.ne_none_iff_exists'.1 hc
      obtain ⟨y', hy'⟩ := Option.ne_none_iff_exists'.1 hc'
      exact h.inj c c' m m' (by rw [(old _ y hcn hy).2]; simp) (by rw [(old _ y' hcn' hy').2]; simp) hm hm' e
  · have hn : H.next + 1 ≤ c := by rw [← hnx]; exact hc
    rw [hw c (by omega)]
    exact h.fresh c (by omega)
  · refine ⟨hle, by rw [hnx]; omega, by omega, fun c m hc hm _ => ?_, fun B hB hn => ho B fun e => hn b l hb hl e.symm, e1, e2, e3, fun b h1 h2 _ => by
      have hn : b ≠ H.next := by omega
      simp [Env.with, hn, h2]⟩
    by_cases hcn : c = H.next
    · subst hcn; rw [hwn] at hm; cases hm; exact ⟨b, l, hb, hl, hl'.symm⟩
    · rw [hw c hcn] at hm
      obtain ⟨y, hy⟩ := Option.ne_none_iff_exists'.1 hc
      exact ⟨c, m, by rw [(old _ y hcn hy).2]; simp, hm, rfl⟩

/-- Cells written behind the first ones of a block; the block goes on as a new one. -/
theorem Real.takeover (h : Real P ρ H w) {b o k : Nat} {e : TypeId} {cs old vs : List AV} (hb : H.get b = some (.cells e cs)) {l : Loc} (hl : ρ b = some l) {ys : List Value} (hr : RelL ρ vs ys) (h1 : ∀ x ∈ vs, x.one = true)
    (hold : old = (cs.drop o).take k) (hk : o + k ≤ cs.length) {sp : Nat} (hroom : l.off + o + k + vs.length + sp * P.cellsOf e ≤ l.off + cs.length + l.spare * P.cellsOf e) :
    ∃ w', (storeCells ⟨l.blk, l.off + (o + k), none⟩ ys).run P w = .ok () w' ∧ Good at_ P ρ H w (ρ.with H.next ⟨l.blk, l.off + o, sp⟩) (newH (H.put b none) none (.cells e (old ++ vs))) w' := by
  obtain ⟨l', c, fr, a1, a2, a3, a4, a5, a6, a7⟩ := h.lies b _ hb
  rw [hl] at a1; cases a1
  have hle : Le ρ (ρ.with H.next ⟨l.blk, l.off + o, sp⟩) := le_with (h.fresh _ (Nat.le_refl _))
  have hlen := hr.length
  have hys : l.off + (o + k) + ys.length ≤ c.size := by rw [hlen]; omega
  have hol : old.length = k := by rw [hold, List.length_take, List.length_drop]; omega
  refine ⟨_, run_storeCells_thawed l.blk (l.off + (o + k)) e fr ys 0 c w a2 a3 (by omega) (fun y hy => ?_), ?_⟩
  · obtain ⟨i, hi⟩ := List.getElem?_of_mem hy
    have hi2 : i < vs.length := by rw [← hlen]; exact (List.getElem?_eq_some_iff.1 hi).1
    obtain ⟨y', h2, h3⟩ := hr.get (List.getElem?_eq_getElem hi2)
    rw [hi] at h2; cases h2
    rw [h3.one]; exact h1 _ (List.getElem_mem hi2)
  · refine h.move (by rw [hb]; simp) hl rfl (setRow_size _ _) (fun k hk => setRow_other _ _ _ hk) ?_ rfl rfl rfl
    have hcl : c.toList.length = c.size := Array.length_toList
    have hsz : (c.toList.take (l.off + (o + k) + 0) ++ ys ++ c.toList.drop (l.off + (o + k) + 0 + ys.length)).toArray.size = c.size := by
      simp only [List.size_toArray, List.length_append, List.length_take, List.length_drop, hcl]; omega
    refine ⟨_, _, fr, with_same _ _, setRow_heap w l.blk c _ e fr a2, by rw [hsz]; exact a3, ?_, ?_, ?_, ?_, a7.2⟩
    · rw [hsz, List.length_append, hol]; show l.off + o + (k + vs.length) + sp * P.cellsOf e ≤ c.size; omega
    · intro x hx
      rw [List.mem_append] at hx
      rcases hx with hx | hx
      · rw [hold] at hx; exact a5 x (List.mem_of_mem_drop (List.mem_of_mem_take hx))
      · exact h1 x hx
    · intro i x hx
      simp only [List.getElem?_toArray, Nat.add_zero]
      by_cases hi : i < k
      · rw [List.getElem?_append_left (by omega), hold, List.getElem?_take, if_pos hi, List.getElem?_drop] at hx
        obtain ⟨u, b1, b2⟩ := a6 _ x hx
        refine ⟨u, ?_, b2.mono hle⟩
        rw [List.append_assoc, List.getElem?_append_left (by rw [List.length_take, hcl]; omega), List.getElem?_take, if_pos (by omega)]
        rw [← Array.getElem?_toList] at b1
        rw [← b1]; congr 1; omega
      · rw [List.getElem?_append_right (by omega), hol] at hx
        obtain ⟨u, b1, b2⟩ := hr.get hx
        refine ⟨u, ?_, .inl (b2.mono hle)⟩
        have hi2 : i - k < vs.length := (List.getElem?_eq_some_iff.1 hx).1
        rw [List.append_assoc, List.getElem?_append_right (by rw [List.length_take, hcl]; omega), List.length_take, hcl, List.getElem?_append_left (by omega)]
        rw [← b1]; congr 1; omega
    · intro i v hi1 hi2 hv
      have hi2 : i < k + vs.length + sp * P.cellsOf e := by rw [List.length_append, hol] at hi2; exact hi2
      have hi1 : k + vs.length ≤ i := by rw [List.length_append, hol] at hi1; exact hi1
      have hv : (c.toList.take (l.off + (o + k) + 0) ++ ys ++ c.toList.drop (l.off + (o + k) + 0 + ys.length))[l.off + o + i]? = some v := by simpa using hv
      rw [List.append_assoc, List.getElem?_append_right (by rw [List.length_take, hcl]; omega), List.length_take, hcl, List.getElem?_append_right (by omega), List.getElem?_drop] at hv
      have hv : c[l.off + (o + i)]? = some v := by
        rw [← Array.getElem?_toList, ← hv]; congr 1; omega
      by_cases hlt : o + i < cs.length
      · obtain ⟨u, b1, b2⟩ := a6 (o + i) _ (List.getElem?_eq_getElem hlt)
        rw [b1] at hv; cases hv
        rw [b2.one]; exact a5 _ (List.getElem_mem _)
      · exact a7.1 (o + i) v (by omega) (by omega) hv

/-! Append. -/
theorem growBy_le (n : Nat) : ∀ (r c : Nat), c ≤ 2 * n + 1024 → Builtin.growBy n r c ≤ 2 * n + 1024
  | 0, c, h => h
  | r + 1, c, h => by
    unfold Builtin.growBy
    split
    · exact h
    · exact growBy_le n r _ (by omega)
theorem nextcap_le {n c : Nat} (h : c < n) : Builtin.nextslicecap n c ≤ 2 * n + 1024 := by
  unfold Builtin.nextslicecap
  split
  · omega
  · split
    · omega
    · exact growBy_le n 4 c (by omega)

/-- What an append brings, run in a world. -/
def Brings (P : Program) (xt e : TypeId) (i : TypeInfo) (x : Value) (n : Nat) (news : List Value) (w : World) : Prop :=
  (∃ j k zv, P.underlying xt = some (.int j) ∧ x = .int k n ∧ n ≤ 1000000000 ∧ n * i.bytes ≤ 281474976710656 ∧ (zeroValue e).run P w = .ok zv w ∧ zv.cells.size = i.size ∧ news = (List.range (n * zv.cells.size)).map (fun j => zv.cells[j % zv.cells.size]!)) ∨
  (∃ d, P.underlying xt = some d ∧ isInt (some d) = false) ∧ (Builtin.lenOf x).run P w = .ok n w ∧ (Builtin.firstCells i.size n x).run P w = .ok news.toArray w

theorem zeros_list (z : Array Value) (n : Nat) : Builtin.zeroCells z n = ((List.range (n * z.size)).map fun j => z[j % z.size]!).toArray := by
  apply Array.ext'; simp [Builtin.zeroCells]

theorem append_room {st xt ty e : TypeId} {ts : Array TypeId} {i : TypeInfo} {base : Option Addr} {sLen sCap n : Nat} {x : Value} {news : List Value} {w' : World} (h0 : ts[0]? = some st) (h1 : ts[1]? = some xt) (hu : P.underlying st = some (.slice e)) (hi : P.info? e = some i)
    (hb : Brings P xt e i x n news w) (hroom : sLen + n ≤ sCap) (hst : (∀ a, base = some a → (storeCells (a.add (sLen * i.size)) news).run P w = .ok () w') ∧ (base = none → w' = w)) :
    (Builtin.append_ ts ty #[.slice base sLen sCap, x]).run P w = .ok (.slice base (sLen + n) sCap) w' := by
  have a0 : (#[.slice base sLen sCap, x] : Array Value)[0]? = some (.slice base sLen sCap) := rfl
  have a1 : (#[.slice base sLen sCap, x] : Array Value)[1]? = some x := rfl
  have hs : (sizeOf e).run P w = .ok i.size w := by simp [sizeOf, run_info hi]
  rcases hb with ⟨j, k, zv, b1, rfl, b2, b3, b4, b5, b6⟩ | ⟨⟨d, b1, b2⟩, b3, b4⟩
  · have wl : IntKind.i64.wrap (n : Int) = n := wrap_of_fits (by show Nat.blt n 9223372036854775808 = true; rw [Nat.blt_eq]; omega)
    have c1 : ¬ ((n : Int) < 0) := by omega
    have c2 : ¬ ((n : Int) * (i.bytes : Int) > 2 ^ 48) := by
      have : (n : Int) * (i.bytes : Int) = ((n * i.bytes : Nat) : Int) := by simp
      rw [this]; simp only [Int.reducePow]; omega
    have ha : (if n * i.size = 0 then pure #[] else do pure (Builtin.zeroCells (← zeroValue e).cells n) : Sem (Array Value)).run P w = .ok news.toArray w := by
      split
      · rename_i hz
        rw [b6, b5, hz]; simp
      · simp [b4, zeros_list, b6]
    unfold Builtin.append_
    simp only [h0, h1, a0, a1]
    rw [Sem.run_bind, run_und hu, Result.andThen_ok]; try dsimp only
    rw [Sem.run_bind, hs, Result.andThen_ok]; try dsimp only
    rw [Sem.run_bind, run_und b1, Result.andThen_ok]; try dsimp only
    rw [Sem.run_bind, Sem.run_pure, Result.andThen_ok]; try dsimp only
    rw [if_pos rfl]
    have ai : (asInt (.int k (n : Int))).run P w = .ok (n : Int) w := by simp [asInt, asIntOf]
    rw [Sem.run_bind, ai, Result.andThen_ok]; try dsimp only
    rw [wl, if_neg c1]
    rw [Sem.run_bind, run_info hi, Result.andThen_ok]; try dsimp only
    rw [if_neg c2]
    rw [Sem.run_bind, Sem.run_pure, Result.andThen_ok]; try dsimp only
    rw [Int.toNat_natCast]
    rw [if_pos hroom]
    rw [if_neg (show ¬ ((!true) = true) by decide)]
    rw [Sem.run_bind, ha, Result.andThen_ok]; try dsimp only
    cases base with
    | none => obtain rfl := hst.2 rfl; rfl
    | some a =>
      have hst := hst.1 a rfl
      dsimp only
      rw [Sem.run_bind, hst, Result.andThen_ok]
      rfl
  · cases d <;> first | (cases b2; done) | skip
    all_goals
      unfold Builtin.append_
      simp only [h0, h1, a0, a1]
      rw [Sem.run_bind, run_und hu, Result.andThen_ok]; try dsimp only
      rw [Sem.run_bind, hs, Result.andThen_ok]; try dsimp only
      rw [Sem.run_bind, run_und b1, Result.andThen_ok]; try dsimp only
      rw [Sem.run_bind, Sem.run_pure, Result.andThen_ok]; try dsimp only
      rw [if_neg Bool.false_ne_true]
      rw [Sem.run_bind, b3, Result.andThen_ok]; try dsimp only
      rw [if_pos hroom]
      rw [if_pos (show (!false) = true from rfl)]
      rw [Sem.run_bind, b4, Result.andThen_ok]; try dsimp only
      cases base with
      | none => obtain rfl := hst.2 rfl; rfl
      | some a =>
        have hst := hst.1 a rfl
        dsimp only
        rw [Sem.run_bind, hst, Result.andThen_ok]
        rfl

theorem append_grow {st xt ty e : TypeId} {ts : Array TypeId} {i : TypeInfo} {base : Option Addr} {sLen sCap n : Nat} {x zv : Value} {olds news0 news : List Value} (h0 : ts[0]? = some st) (h1 : ts[1]? = some xt) (hu : P.underlying st = some (.slice e)) (hi : P.info? e = some i)
    (hb : Brings P xt e i x n news0 w) (hb' : Brings P xt e i x n news w.drew) (hroom : sCap < sLen + n) (hby : (2 * (sLen + n) + 1024) * i.bytes ≤ 281474976710656) (hpos : 0 < i.bytes)
    (hold : (Builtin.firstCells i.size sLen (.slice base sLen sCap)).run P w.drew = .ok olds.toArray w.drew) (hz : ∀ w, (zeroValue e).run P w = .ok zv w) :
    ∃ sp, (Builtin.append_ ts ty #[.slice base sLen sCap, x]).run P w = .ok (.slice (some ⟨w.heap.size, 0, none⟩) (sLen + n) (sLen + n + sp))
      { w.drew with heap := w.heap.push (.cells (olds ++ news ++ (Builtin.zeroCells zv.cells sp).toList).toArray e) } := by
  refine ⟨grownCap w (sLen + n) sCap e - (sLen + n), ?_⟩
  have hge := grownCap_ge w (sLen + n) sCap e
  have hfit : ¬ (Builtin.nextslicecap (sLen + n) sCap * i.bytes > 2 ^ 48) := by
    have h1 := nextcap_le hroom
    have h2 := Nat.mul_le_mul_right i.bytes h1
    simp only [Nat.reducePow]
    omega
  have hn : ¬ (sLen + n ≤ sCap) := by omega
  have hbig : sLen + n ≤ 281474976710656 := by
    have := Nat.le_mul_of_pos_right (2 * (sLen + n) + 1024) hpos
    omega
  have h63 : ∀ q : Prop, ¬ (((sLen + n : Nat) : Int) > IntKind.i64.max ∧ q) := fun q hq => by
    have := hq.1
    have e : IntKind.i64.max = 9223372036854775807 := by decide
    rw [e] at this
    omega
  have e1 : sLen + n + (grownCap w (sLen + n) sCap e - (sLen + n)) = grownCap w (sLen + n) sCap e := by omega
  rw [e1]
  have a0 : (#[.slice base sLen sCap, x] : Array Value)[0]? = some (.slice base sLen sCap) := rfl
  have a1 : (#[.slice base sLen sCap, x] : Array Value)[1]? = some x := rfl
  have hs : (sizeOf e).run P w = .ok i.size w := by simp [sizeOf, run_info hi]
  have hch : (choose (.appendCap (sLen + n) sCap e)).run P w = .ok (grownCap w (sLen + n) sCap e) w.drew := by simp [Question.forced, grownCap]
  have har : ∀ k, (askRoom k).run P w.drew = .ok () w.drew := fun k => run_askRoom ..
  have hnr : ∀ cs : Array Value, (Go.newRow e cs).run P w.drew = .ok ⟨w.heap.size, 0, none⟩ { w.drew with heap := w.heap.push (.cells cs e) } := fun cs => by simp [Go.newRow]; rfl
  have hcs : ∀ z : Array Value, olds.toArray ++ news.toArray ++ z = (olds ++ news ++ z.toList).toArray := fun z => by apply Array.ext'; simp
  rcases hb with ⟨j, k, zv', b1, rfl, b2, b3, b4, b5, b6⟩ | ⟨⟨d, b1, b2⟩, b3, -⟩
  · rcases hb' with ⟨j', k', zv2, -, -, -, -, q4, q5, q6⟩ | ⟨⟨d, q1, q2⟩, -⟩
    case inr => rw [b1] at q1; cases q1; cases q2
    have wl : IntKind.i64.wrap (n : Int) = n := wrap_of_fits (by show Nat.blt n 9223372036854775808 = true; rw [Nat.blt_eq]; omega)
    have c1 : ¬ ((n : Int) < 0) := by omega
    have c2 : ¬ ((n : Int) * (i.bytes : Int) > 2 ^ 48) := by
      have : (n : Int) * (i.bytes : Int) = ((n * i.bytes : Nat) : Int) := by simp
      rw [this]; simp only [Int.reducePow]; omega
    have ha : (if n * i.size = 0 then pure #[] else do pure (Builtin.zeroCells (← zeroValue e).cells n) : Sem (Array Value)).run P w.drew = .ok news.toArray w.drew := by
      split
      · rename_i hz
        rw [q6, q5, hz]; simp
      · simp [q4, zeros_list, q6]
    unfold Builtin.append_
    simp only [h0, h1, a0, a1]
    rw [Sem.run_bind, run_und hu, Result.andThen_ok]; try dsimp only
    rw [Sem.run_bind, hs, Result.andThen_ok]; try dsimp only
    rw [Sem.run_bind, run_und b1, Result.andThen_ok]; try dsimp only
    rw [Sem.run_bind, Sem.run_pure, Result.andThen_ok]; try dsimp only
    rw [if_pos rfl]
    have ai : (asInt (.int k (n : Int))).run P w = .ok (n : Int) w := by simp [asInt, asIntOf]
    rw [Sem.run_bind, ai, Result.andThen_ok]; try dsimp only
    rw [wl, if_neg c1]
    rw [Sem.run_bind, run_info hi, Result.andThen_ok]; try dsimp only
    rw [if_neg c2]
    rw [Sem.run_bind, Sem.run_pure, Result.andThen_ok]; try dsimp only
    rw [Int.toNat_natCast]
    rw [if_neg hn]
    rw [Sem.run_bind, run_info hi, Result.andThen_ok]; try dsimp only
    rw [if_neg (h63 _)]
    rw [Sem.run_bind, run_info hi, Result.andThen_ok]; try dsimp only
    rw [if_neg hfit]
    rw [Sem.run_bind, hch, Result.andThen_ok]; try dsimp only
    rw [Sem.run_bind, run_info hi, Result.andThen_ok]; try dsimp only
    rw [Sem.run_bind, har _, Result.andThen_ok]; try dsimp only
    rw [Sem.run_bind, hold, Result.andThen_ok]; try dsimp only
    rw [if_neg (show ¬ ((!true) = true) by decide)]
    rw [Sem.run_bind, ha, Result.andThen_ok]; try dsimp only
    rw [Sem.run_bind, hz w.drew, Result.andThen_ok]; try dsimp only
    rw [Sem.run_bind, hnr _, Result.andThen_ok]; try dsimp only
    rw [Sem.run_pure, hcs]
  · rcases hb' with ⟨j', k', zv2, q1, -⟩ | ⟨-, -, b4⟩
    · rw [b1] at q1; cases q1; cases b2
    cases d <;> first | (cases b2; done) | skip
    all_goals
      unfold Builtin.append_
      simp only [h0, h1, a0, a1]
      rw [Sem.run_bind, run_und hu, Result.andThen_ok]; try dsimp only
      rw [Sem.run_bind, hs, Result.andThen_ok]; try dsimp only
      rw [Sem.run_bind, run_und b1, Result.andThen_ok]; try dsimp only
      rw [Sem.run_bind, Sem.run_pure, Result.andThen_ok]; try dsimp only
      rw [if_neg Bool.false_ne_true]
      rw [Sem.run_bind, b3, Result.andThen_ok]; try dsimp only
      rw [if_neg hn]
      rw [Sem.run_bind, run_info hi, Result.andThen_ok]; try dsimp only
      rw [if_neg (h63 _)]
      rw [Sem.run_bind, run_info hi, Result.andThen_ok]; try dsimp only
      rw [if_neg hfit]
      rw [Sem.run_bind, hch, Result.andThen_ok]; try dsimp only
      rw [Sem.run_bind, run_info hi, Result.andThen_ok]; try dsimp only
      rw [Sem.run_bind, har _, Result.andThen_ok]; try dsimp only
      rw [Sem.run_bind, hold, Result.andThen_ok]; try dsimp only
      rw [if_pos (show (!false) = true from rfl)]
      rw [Sem.run_bind, b4, Result.andThen_ok]; try dsimp only
      rw [Sem.run_bind, hz w.drew, Result.andThen_ok]; try dsimp only
      rw [Sem.run_bind, hnr _, Result.andThen_ok]; try dsimp only
      rw [Sem.run_pure, hcs]


/-- What an append brings, evaluated. -/
noncomputable def NewOf (H : AH) (sz by_ : Nat) (z : List AV) (xd : Option TypeDesc) (x : AV) : Option (Nat × List AV) := br (isInt xd) (newZeros by_ z x) (newCells sz x H)

theorem brings_of (h : Real P ρ H w) {xt e : TypeId} {i : TypeInfo} {sz by_ n : Nat} {z new : List AV} {xd : TypeDesc} {x : AV} {x' : Value} (hsz : 0 < sz) (hel : elT P e = some (sz, z)) (hi : P.info? e = some i) (hby : i.bytes = by_) (his : i.size = sz)
    (hxd : P.underlying xt = some xd) (hn : NewOf H sz by_ z (some xd) x = some (n, new)) (hx : Rel ρ x x') :
    ∃ news, Brings P xt e i x' n news w ∧ RelL ρ new news ∧ (∀ y ∈ new, y.one = true) ∧ new.length ≤ n * sz := by
  obtain ⟨hs, ⟨zv, hz, rfl⟩, hlen, hone⟩ := elT_some hel
  obtain ⟨zv', hzv, hzr⟩ := run_zero (ρ := ρ) (w := w) hz
  have hzp := hzr.parts
  have hzl : zv'.cells.size = i.size := by have := hzp.length; simp at this; omega
  unfold NewOf at hn
  cases hq : isInt (some xd) with
  | true =>
    rw [hq, br_true] at hn
    unfold newZeros at hn
    split at hn
    · rename_i k m
      simp only [ob_eq_some, natZ_eq_some, br_some_none, Nat.ble_eq, Option.some.injEq, Prod.mk.injEq] at hn
      obtain ⟨m', rfl, h1, h2, rfl, rfl⟩ := hn
      have hj : ∃ j, xd = .int j := by cases xd <;> first | exact ⟨_, rfl⟩ | (cases hq; done)
      obtain ⟨j, rfl⟩ := hj
      refine ⟨_, .inl ⟨j, k, zv', hxd, rel_int hx, h1, by rw [hby]; exact h2, hzv, hzl, rfl⟩, reps_rel hzp _, reps_one _ _ hone, by rw [reps_length, hlen]; exact Nat.le_refl _⟩
    · cases hn
  | false =>
    rw [hq, br_false] at hn
    simp only [newCells, ob_eq_some, Option.some.injEq, Prod.mk.injEq] at hn
    obtain ⟨n', h1, cs, h2, rfl, rfl⟩ := hn
    obtain ⟨vs, r1, r2, r3, r4⟩ := cells_run h h2 hx
    refine ⟨vs, .inr ⟨⟨xd, hxd, hq⟩, len_run h1 hx, by rw [his]; exact r1⟩, r2, r4, ?_⟩
    by_cases hst : ∃ s, x = .str s
    · obtain ⟨s, rfl⟩ := hst
      simp only [sliceCells, Option.some.injEq] at h2
      subst h2
      rw [List.length_map, List.length_take]
      exact Nat.le_trans (Nat.min_le_left _ _) (Nat.le_mul_of_pos_right _ hsz)
    · rw [r3 fun s hs => hst ⟨s, hs⟩]; exact Nat.le_refl _

theorem killTo_some {b o : Nat} {e : TypeId} {at_ : Option Nat} {k : AH → Option Out} {out : Out} (h : killTo H b o e at_ k = some out) :
    at_ = none ∧ ∃ cs, H.get b = some (.cells e cs) ∧ cs.length = o ∧ k (H.put b none) = some out := by
  unfold killTo at h
  split at h
  · cases h
  · simp only [cellsTo_eq_some, br_some_none, lenN_iff, AH.putTo_eq] at h
    obtain ⟨e', cs, h1, h2, h3, h4⟩ := h
    cases Nat.eq_of_beq_eq_true h2
    exact ⟨rfl, cs, h1, h3, h4⟩

theorem openNew_eq {H : AH} {e : TypeId} {cs : List AV} {n : Nat} {at_ : Option Nat} : openNew e cs n H at_ = some (.val (.slice (some (idOf H at_, 0)) n n false) (newH H at_ (.cells e cs))) := by
  simp [openNew, newTo_eq]

theorem good_drew (h : Real P ρ H w) : Good at_ P ρ H w ρ H w.drew := .drew h _

/-- A new row, open behind. -/
theorem Real.openRow (h : Real P ρ H w) {at_ : Option Nat} (ha : AtOk ρ H at_) {e : TypeId} {cs : List AV} {vs : List Value} {zs : List Value} {n sp : Nat} (hr : RelL ρ cs vs) (h1 : ∀ x ∈ cs, x.one = true) (hz : zs.length = sp * P.cellsOf e) (hz1 : ∀ v ∈ zs, v.oneCell' = true) :
    ∃ ρ' v', Rel ρ' (.slice (some (idOf H at_, 0)) n n false) v' ∧ v' = .slice (some ⟨w.heap.size, 0, none⟩) n (n + sp) ∧ Good at_ P ρ H w ρ' (newH H at_ (.cells e cs)) { w with heap := w.heap.push (.cells (vs ++ zs).toArray e) } := by
  have hl := hr.length
  have g := h.newRow (sp := sp) ha (e := e) (cs := cs) (c := vs ++ zs) (by rw [← hl, List.take_left]; exact hr) h1 (by rw [List.length_append, hl, hz]; exact Nat.le_refl _)
    (fun i v a1 _ a3 => by rw [List.getElem?_append_right (by omega)] at a3; exact hz1 v (List.mem_of_getElem? a3))
  exact ⟨_, _, ⟨_, with_same _ _, rfl⟩, by simp, g⟩

theorem s_appendTo (h : Real P ρ H w) {at_ : Option Nat} (ha : AtOk ρ H at_) {st xt ty e : TypeId} {ts : Array TypeId} {i : TypeInfo} {sz by_ n : Nat} {z new : List AV} {xd : TypeDesc} {s x : AV} {s' x' : Value} {out : Out} (h0 : ts[0]? = some st) (h1 : ts[1]? = some xt)
    (hu : P.underlying st = some (.slice e)) (hsz : 0 < sz) (hby0 : 0 < by_) (hel : elT P e = some (sz, z)) (hi : P.info? e = some i) (hby : i.bytes = by_) (his : i.size = sz)
    (hxd : P.underlying xt = some xd) (hn : NewOf H sz by_ z (some xd) x = some (n, new)) (hs : Rel ρ s s') (hx : Rel ρ x x') (he : appendTo e sz by_ s n new H at_ = some out) :
    OpRes at_ P ρ H w out ((do pure (Next.value (← Builtin.append_ ts ty #[s', x'])) : Sem Next).run P w) := by
  obtain ⟨news, B, hr, hone, hlen⟩ := brings_of h hsz hel hi hby his hxd hn hx
  have gd := good_drew (at_ := at_) h
  obtain ⟨newsd, Bd, hrd, -, -⟩ := brings_of gd.real hsz hel hi hby his hxd hn hx
  obtain ⟨hse, ⟨zv, hz, rfl⟩, hzlen, hzone⟩ := elT_some hel
  have hce : P.cellsOf e = sz := cellsOf_eq hse
  obtain ⟨zv', hzv', hzr⟩ := run_zero (ρ := ρ) (w := w) hz
  have hzrun : ∀ w, (zeroValue e).run P w = .ok zv' w := by
    intro w2
    obtain ⟨zv2, hz2, -⟩ := run_zero (ρ := ρ) (w := w2) hz
    simp [zeroValue, run_info hi] at hzv' hz2 ⊢
    revert hzv' hz2
    cases i.zero <;> simp_all
  have hzl : zv'.cells.size = sz := by have := hzr.parts.length; simp at this; omega
  have fin : ∀ {v' w'}, (Builtin.append_ ts ty #[s', x']).run P w = .ok v' w' → (do pure (Next.value (← Builtin.append_ ts ty #[s', x'])) : Sem Next).run P w = .ok (.value v') w' := by
    intro v' w' hr
    simp [hr]
  -- a new row
  have grow : ∀ {H1 : AH} {at1 : Option Nat} {base : Option Addr} {len C : Nat} {old : List AV} {olds : List Value}, Good at_ P ρ H w ρ H1 w.drew → AtOk ρ H1 at1 → at1 = none ∨ at1 = at_ → s' = .slice base len C → C < len + n → (2 * (len + n) + 1024) * by_ ≤ 281474976710656 →
      (Builtin.firstCells sz len (.slice base len C)).run P w.drew = .ok olds.toArray w.drew → RelL ρ old olds → (∀ y ∈ old, y.one = true) → openNew e (old ++ new) (len + n) H1 at1 = some out → OpRes at_ P ρ H w out ((do pure (Next.value (← Builtin.append_ ts ty #[s', x'])) : Sem Next).run P w) := by
    intro H1 at1 base len C old olds g1 ha1 hat hs' hC hb2 hold hro hoo ho
    obtain ⟨sp, hrun⟩ := append_grow (ty := ty) (olds := olds) h0 h1 hu hi B Bd hC (by rw [hby]; exact hb2) (by rw [hby]; exact hby0) (by rw [his]; exact hold) hzrun
    rw [openNew_eq] at ho
    cases ho
    obtain ⟨ρ', v', r1, r2, r3⟩ := g1.real.openRow ha1 (e := e) (n := len + n) (sp := sp) (zs := (Builtin.zeroCells zv'.cells sp).toList) (hro.append hrd) (fun y hy => (List.mem_append.1 hy).elim (hoo y) (hone y)) (by rw [hce]; simp [Builtin.zeroCells, hzl]) (fun v hv => by
        simp only [Builtin.zeroCells, Array.toList_map, List.mem_map] at hv
        obtain ⟨j, _, rfl⟩ := hv
        have hj : j % zv'.cells.size < zv'.cells.size := Nat.mod_lt _ (by omega)
        rw [getElem!_pos zv'.cells (j % zv'.cells.size) hj]
        have hl2 := hzr.parts.length
        simp only [Array.length_toList] at hl2
        obtain ⟨y, q1, q2⟩ := hzr.parts.get (List.getElem?_eq_getElem (i := j % zv'.cells.size) (by omega))
        rw [Array.getElem?_toList, Array.getElem?_eq_getElem hj] at q1
        cases q1
        rw [q2.one]
        exact hzone _ (List.getElem_mem _))
    have r3 := (show ∀ {w2}, Good at1 P ρ H1 w.drew ρ' (newH H1 at1 (.cells e (old ++ new))) w2 → Good at_ P ρ H1 w.drew ρ' (newH H1 at1 (.cells e (old ++ new))) w2 from fun g => by
      rcases hat with rfl | rfl
      · exact g.any
      · exact g) r3
    refine ⟨ρ', v', _, fin ?_, r1, g1.trans r3⟩
    rw [hs', r2]
    exact hrun
  unfold appendTo at he
  split at he
  · rename_i p len cap ex
    rw [br_eq] at he
    split at he
    · rename_i hle
      have hle : len + n ≤ cap := by simpa using hle
      rcases p with _ | ⟨b, o⟩
      · cases he
        have hs' := rel_nilSlice hs
        subst hs'
        exact ⟨ρ, _, w, fin (append_room (ty := ty) h0 h1 hu hi B hle ⟨fun a ha => (by cases ha), fun _ => rfl⟩), rfl, h.good⟩
      · simp only [ob_eq_some, Option.some.injEq] at he
        obtain ⟨H', hw, rfl⟩ := he
        obtain ⟨l, hl, rfl⟩ := rel_slice hs
        obtain ⟨w', w1, w2⟩ := h.write hw hl hr hone
        refine ⟨ρ, _, w', fin (append_room (ty := ty) h0 h1 hu hi B ?_ ⟨fun a ha => ?_, fun ha => (by cases ha)⟩), ⟨l, hl, rfl⟩, w2⟩
        · split <;> omega
        · cases ha
          rw [add_plain, his, Nat.add_assoc]
          exact w1
    · rename_i hle
      have hle : cap < len + n := by simpa using hle
      simp only [br_some_none, Nat.ble_eq, ob_eq_some] at he
      obtain ⟨hb2, old, hold, he⟩ := he
      obtain ⟨olds, o1, o2, o3, o4⟩ := cells_run gd.real hold hs
      have hol := o3 (fun s hs => by cases hs)
      rw [br_eq] at he
      split at he
      · rename_i hex
        subst hex
        rw [joinL_eq] at he
        rcases p with _ | ⟨b, o⟩
        · have hs' := rel_nilSlice hs
          rw [hs'] at o1
          exact grow gd ha (.inr rfl) hs' hle hb2 o1 o2 o4 he
        · obtain ⟨l, hl, hs'⟩ := rel_slice hs
          rw [hs'] at o1
          exact grow gd ha (.inr rfl) hs' hle hb2 o1 o2 o4 he
      · rename_i hex
        have hex : ex = false := by simpa using hex
        subst hex
        split at he
        · cases he
        · rename_i b o
          rw [br_some_none, Nat.ble_eq] at he
          obtain ⟨hlc, he⟩ := he
          obtain ⟨rfl, cs, k1, k2, k3⟩ := killTo_some he
          rw [joinL_eq] at k3
          obtain ⟨l, hl, hs'⟩ := rel_slice hs
          simp only [Bool.false_eq_true, if_false] at hs'
          by_cases hC : len + n ≤ cap + l.spare
          · rw [openNew_eq] at k3
            cases k3
            have holdc : old = (cs.drop o).take (len * sz) := by
              unfold sliceCells at hold
              rw [br_some_none, Nat.ble_eq] at hold
              obtain ⟨q1, q2⟩ := hold
              simp only [br_eq, Nat.beq_eq] at q2
              split at q2
              · rename_i q3; subst q3; cases q2; simp
              · rw [ob_eq_some] at q2
                obtain ⟨cs1, q2, hcc⟩ := q2
                have hcc : cs1 = old := by
                  split at hcc
                  · cases hcc; rfl
                  · cases hcc
                subst hcc
                rcases rowTo_eq_some.1 q2 with ⟨e2, cs2, q4, q5⟩ | ⟨_, _, q4, _⟩
                case inr => rw [k1] at q4; cases q4
                rw [k1] at q4; cases q4
                rw [cut_eq] at q5
                split at q5
                · cases q5; rfl
                · cases q5
            have hk2 : o + len * sz ≤ cs.length := by rw [k2]; exact Nat.add_le_add_left (Nat.mul_le_mul_right _ hlc) _
            have hroom : l.off + o + len * sz + new.length + (cap + l.spare - (len + n)) * P.cellsOf e ≤ l.off + cs.length + l.spare * P.cellsOf e := by
              rw [hce, k2]
              have e1 : (cap + l.spare - (len + n)) * sz + (len + n) * sz = (cap + l.spare) * sz := by rw [← Nat.add_mul]; congr 1; omega
              have e2 : (len + n) * sz = len * sz + n * sz := Nat.add_mul _ _ _
              have e3 : (cap + l.spare) * sz = cap * sz + l.spare * sz := Nat.add_mul _ _ _
              have e4 : Nat.add o (Nat.mul cap sz) = o + cap * sz := rfl
              rw [e4]
              omega
            obtain ⟨w', w1, w2⟩ := h.takeover k1 hl hr hone holdc hk2 hroom
            have hrun : (Builtin.append_ ts ty #[s', x']).run P w = .ok (.slice (some ⟨l.blk, l.off + o, none⟩) (len + n) (cap + l.spare)) w' := by
              rw [hs']
              refine append_room (ty := ty) h0 h1 hu hi B hC ⟨fun a ha => ?_, fun ha => (by cases ha)⟩
              cases ha
              rw [add_plain, his, Nat.add_assoc]
              exact w1
            refine ⟨_, _, w', fin hrun, ⟨_, with_same _ _, ?_⟩, w2⟩
            have : cap + l.spare = len + n + (cap + l.spare - (len + n)) := by omega
            simp [← this]
          · rw [hs'] at o1
            have g1 : Good none P ρ H w ρ (H.put b none) w.drew := gd.trans (.kill gd.real b)
            exact grow g1 (at1 := none) trivial (.inl rfl) hs' (by omega) hb2 o1 o2 o4 k3
  · rename_i b o
    obtain ⟨l, aa, cp, hl, hs', hcp⟩ := rel_tail hs
    rw [br_eq] at he
    split at he
    · rename_i hn0
      have hn0 : n = 0 := by simpa using hn0
      subst hn0
      cases he
      have hnew : new = [] := by
        apply List.eq_nil_of_length_eq_zero; omega
      subst hnew
      cases hr
      have hrun : (Builtin.append_ ts ty #[s', x']).run P w = .ok (.slice (some ⟨l.blk, aa, none⟩) 0 cp) w := by
        rw [hs']
        exact append_room (ty := ty) h0 h1 hu hi B (Nat.zero_le _) ⟨fun a ha => rfl, fun ha => (by cases ha)⟩
      exact ⟨ρ, _, w, fin hrun, ⟨l, aa, cp, hl, rfl, hcp⟩, h.good⟩
    · rename_i hn0
      have hn0 : n ≠ 0 := by simpa using hn0
      simp only [br_some_none, Nat.ble_eq] at he
      obtain ⟨hb2, he⟩ := he
      obtain ⟨rfl, cs, k1, k2, k3⟩ := killTo_some he
      by_cases hC : n ≤ cp
      · rw [openNew_eq] at k3
        cases k3
        rcases hcp with rfl | ⟨rfl, rfl⟩
        · omega
        · have hroom : l.off + o + 0 + new.length + (l.spare - n) * P.cellsOf e ≤ l.off + cs.length + l.spare * P.cellsOf e := by
            rw [hce, k2]
            have e1 : (l.spare - n) * sz + n * sz = l.spare * sz := by rw [← Nat.add_mul]; congr 1; omega
            omega
          obtain ⟨w', w1, w2⟩ := h.takeover (old := []) (k := 0) k1 hl hr hone (by simp) (by omega) hroom
          have hrun : (Builtin.append_ ts ty #[s', x']).run P w = .ok (.slice (some ⟨l.blk, l.off + o, none⟩) (0 + n) l.spare) w' := by
            rw [hs']
            refine append_room (ty := ty) h0 h1 hu hi B (by omega) ⟨fun a ha => ?_, fun ha => (by cases ha)⟩
            cases ha
            rw [add_plain, Nat.zero_mul]
            exact w1
          refine ⟨_, _, w', fin hrun, ⟨_, with_same _ _, ?_⟩, w2⟩
          have : n + (l.spare - n) = l.spare := by omega
          simp [this]
      · have g1 : Good none P ρ H w ρ (H.put b none) w.drew := gd.trans (.kill gd.real b)
        exact grow (old := []) (olds := []) g1 (at1 := none) trivial (.inl rfl) hs' (by omega) (by simpa using hb2) (by simp [Builtin.firstCells, loadCells, loadCellsFrom]) rfl (by simp) (by simpa using k3)
  · cases he

end Go.Ab
