/- Each operation, evaluated, is what the operation does (fourth part: conversions, interfaces, addresses, slices, maps). -/
import Derived.Test.YtoafnnphjbdedaaGreatDoorAbH
import Derived.Laws.BytesString
namespace Go.Ab
variable {P : Program} {ρ : Env} {H : AH} {w : World} {at_ : Option Nat} {W : Tmp → Prop}

theorem rel_nilSlice {n c : Nat} {ex : Bool} {v : Value} (h : Rel ρ (.slice none n c ex) v) : v = .slice none n c := h

/-! What a slice holds. -/
theorem cells_run (h : Real P ρ H w) {sz n : Nat} {v : AV} {cs : List AV} (hc : sliceCells H sz n v = some cs) {v' : Value} (hv : Rel ρ v v') :
    ∃ vs : List Value, (Builtin.firstCells sz n v').run P w = .ok vs.toArray w ∧ RelL ρ cs vs ∧ ((∀ s, v ≠ .str s) → cs.length = n * sz) ∧ ∀ x ∈ cs, x.one = true := by
  unfold sliceCells at hc
  split at hc
  · simp only [br_some_none, Nat.beq_eq, Option.some.injEq] at hc
    obtain ⟨rfl, rfl⟩ := hc
    cases hv
    exact ⟨[], rfl, rfl, by simp, by simp⟩
  · rw [br_some_none, Nat.ble_eq] at hc
    obtain ⟨hle, hc⟩ := hc
    simp only [br_eq, Nat.beq_eq] at hc
    obtain ⟨l, hl, rfl⟩ := rel_slice hv
    split at hc
    · rename_i h0
      simp only [Option.some.injEq] at hc
      subst h0 hc
      exact ⟨[], by simp [Builtin.firstCells, loadCells, loadCellsFrom], rfl, by simp, by simp⟩
    · rw [ob_eq_some] at hc
      obtain ⟨cs1, hc, hcc⟩ := hc
      have hkn : allB AV.known cs1 = true := by
        split at hcc
        · assumption
        · cases hcc
      rw [if_pos hkn] at hcc
      cases hcc
      rw [allB_eq, List.all_eq_true] at hkn
      simp only [rowTo_eq_some, cut_eq] at hc
      rcases hc with ⟨e, cs0, hb, hc⟩ | ⟨ob, f, hb, hc⟩
      case inr =>
        obtain ⟨r1, r2⟩ := (h.lies _ _ hb).toRo hl hc
        obtain ⟨vs, h1, h2⟩ := r1.load (P := P)
        have hlen := (roList_some hc).1
        rw [hlen] at h1
        exact ⟨vs, by simpa [Builtin.firstCells] using h1, h2 hkn, fun _ => hlen, r2⟩
      split at hc
      · rename_i hle2
        simp only [Option.some.injEq] at hc
        subst hc
        have hli := h.lies _ _ hb
        obtain ⟨vs, h1, h2⟩ := ((hli.toRow hl).sub _ _ hle2).load (P := P)
        rw [List.length_take, List.length_drop, Nat.min_eq_left (by omega)] at h1
        refine ⟨vs, by simpa [Builtin.firstCells] using h1, h2 hkn, fun _ => by rw [List.length_take, List.length_drop]; exact Nat.min_eq_left (by omega), fun x hx => ?_⟩
        obtain ⟨_, _, _, _, _, _, _, h5, _, _⟩ := hli
        exact h5 x (List.mem_of_mem_drop (List.mem_of_mem_take hx))
      · cases hc
  · simp only [br_some_none, Nat.beq_eq, Option.some.injEq] at hc
    obtain ⟨rfl, rfl⟩ := hc
    obtain ⟨l, p, q, hl, rfl, _⟩ := rel_tail hv
    exact ⟨[], by simp [Builtin.firstCells, loadCells, loadCellsFrom], rfl, by simp, by simp⟩
  · rename_i s
    simp only [Option.some.injEq] at hc
    subst hc
    cases hv
    refine ⟨(s.take n).map fun b => .int .u8 b.toNat, ?_, ?_, fun hs => absurd rfl (hs s), ?_⟩
    · simp only [Builtin.firstCells, Sem.run_pure]
      congr 1
      apply Array.ext'
      simp [ByteArray.data_extract]
    · refine .of_get (by simp) fun i x y hx hy => ?_
      simp only [List.getElem?_map] at hx hy
      cases hq : (s.take n)[i]? with
      | none => rw [hq] at hx; cases hx
      | some b => rw [hq] at hx hy; cases hx; cases hy; rfl
    · intro x hx
      simp only [List.mem_map] at hx
      obtain ⟨b, _, rfl⟩ := hx
      rfl
  · cases hc

theorem len_run {v : AV} {n : Nat} (h : lenA v = some n) {v' : Value} (hv : Rel ρ v v') : (Builtin.lenOf v').run P w = .ok n w := by
  unfold lenA at h
  split at h
  · rename_i p m c ex
    simp only [Option.some.injEq] at h
    subst h
    rcases p with _ | ⟨b, o⟩
    · cases hv; rfl
    · obtain ⟨l, _, rfl⟩ := rel_slice hv; rfl
  · cases h
    obtain ⟨l, p, q, hl, rfl, _⟩ := rel_tail hv; rfl
  · cases h; cases hv
    simp [Builtin.lenOf, ByteArray.size]
  · cases h

section ops
variable {tm : TM0} {a : Act} {out : Out} {dst : Option Tmp} {type : TypeId} {pos : String} {after : Array Edge} {guard : Option (Nat × Bool)}

theorem isU8_some {e : TypeId} (h : isU8 P e = true) : P.underlying e = some (.int .u8) ∧ szOf P e = some 1 := by
  unfold isU8 at h
  split at h
  · exact ⟨by assumption, by assumption⟩
  · cases h

theorem ck_int {src dst : TypeId} {k : IntKind} (h : ckOf P src dst = some (.int k)) : ∃ d, P.underlying src = some d ∧ P.underlying dst = some (.int k) := by
  unfold ckOf at h
  split at h <;> simp_all [br_some_none]
theorem ck_str {src dst : TypeId} (h : ckOf P src dst = some .str) : P.underlying src = some .string ∧ P.underlying dst = some .string := by
  unfold ckOf at h
  split at h <;> simp_all [br_some_none]
theorem ck_bytes {src dst e : TypeId} (h : ckOf P src dst = some (.bytes e)) : P.underlying src = some .string ∧ P.underlying dst = some (.slice e) ∧ isU8 P e = true := by
  unfold ckOf at h
  split at h <;> simp_all [br_some_none]
  obtain ⟨h1, rfl⟩ := h
  exact h1
theorem ck_same {src dst e : TypeId} (h : ckOf P src dst = some (.same e)) : ∃ e', P.underlying src = some (.slice e') ∧ P.underlying dst = some (.slice e) ∧ isU8 P e = true ∧ src = dst := by
  unfold ckOf at h
  split at h
  · cases h
  · rw [br_some_none] at h; cases h.2
  · cases h
  · rw [br_some_none] at h; cases h.2
  · rename_i e' e2 h1 h2
    rw [br_some_none, br_some_none] at h
    obtain ⟨a, b, c⟩ := h
    cases c
    exact ⟨e', h1, h2, b, Nat.eq_of_beq_eq_true a⟩
  · cases h
theorem ck_text {src dst : TypeId} (h : ckOf P src dst = some .text) : ∃ e, P.underlying src = some (.slice e) ∧ P.underlying dst = some .string ∧ isU8 P e = true := by
  unfold ckOf at h
  split at h <;> simp_all [br_some_none]


theorem allM_bytes {cs : List AV} {bs : List UInt8} (h : allM byteOfA cs = some bs) {vs : List Value} (hr : RelL ρ cs vs) : ∃ ns : List Int, vs = ns.map (Value.int .u8) ∧ bs = ns.map fun n => UInt8.ofNat n.toNat := by
  induction cs generalizing bs vs with
  | nil => cases h; cases hr; exact ⟨[], rfl, rfl⟩
  | cons c cs ih =>
    have e : allM byteOfA (c :: cs) = ob (byteOfA c) fun y => ob (allM byteOfA cs) fun ys => some (y :: ys) := rfl
    rw [e] at h
    simp only [ob_eq_some, Option.some.injEq] at h
    obtain ⟨b, hb, bs', hbs, rfl⟩ := h
    obtain ⟨v, vs', rfl, hv, hvs⟩ := hr
    obtain ⟨ns, rfl, rfl⟩ := ih hbs hvs
    unfold byteOfA at hb
    split at hb
    · rename_i n
      simp only [Option.some.injEq] at hb
      cases hv
      exact ⟨n :: ns, rfl, by simp [hb]⟩
    · cases hb

theorem foldl_push (ns : List Int) (s : ByteArray) : ns.foldl (fun r n => r.push (UInt8.ofNat n.toNat)) s = ⟨s.data ++ (ns.map fun n => UInt8.ofNat n.toNat).toArray⟩ := by
  induction ns generalizing s with
  | nil => simp
  | cons n ns ih =>
    rw [List.foldl_cons, ih]
    simp [ByteArray.push]

theorem heap_modify_other (g : Nat) (f : Obj → Obj) (k : Nat) (h : k ≠ g) : (w.heap.modify g f)[k]? = w.heap[k]? := by
  rw [Array.getElem?_modify, if_neg (by omega)]

/-- What is shared with a string lies behind the row. -/
theorem Real.stringish (h : Real P ρ H w) {b : Nat} {e : TypeId} (hU : isU8 P e = true) {cs : List AV} (hb : H.get b = some (.cells e cs)) {l : Loc} (hl : ρ b = some l) {o : Nat} :
    ∃ w', (markStringish ⟨l.blk, o, none⟩).run P w = .ok () w' ∧ Good at_ P ρ H w ρ H w' := by
  obtain ⟨l', c, fr, h1, h2, h3, h4, h5, h6, h7⟩ := h.lies b _ hb
  rw [hl] at h1; cases h1
  refine ⟨w.freeze ⟨l.blk, c.size, none⟩ 1, ?_, ?_⟩
  · simp [markStringish, World.shape?, h2]
  · have g := h.change (at_ := at_) (b := b) (x := .cells e cs) (w' := w.freeze ⟨l.blk, c.size, none⟩ 1) (by rw [hb]; simp) hl (by simp [World.freeze]) (fun k hk => by simp only [World.freeze]; exact heap_modify_other _ _ _ hk) ?_ rfl rfl rfl
    · refine ⟨⟨fun b' y hy => g.real.lies b' y ?_, fun b1 b2 l1 l2 a1 a2 => g.real.inj b1 b2 l1 l2 ?_ ?_, fun b' hb' => g.real.fresh b' hb', g.real.glob'⟩, ?_⟩
      · rw [AH.get_put]; split
        · rename_i e1; subst e1; rw [hb] at hy; exact hy
        · exact hy
      · rw [AH.get_put]; split
        · simp
        · exact a1
      · rw [AH.get_put]; split
        · simp
        · exact a2
      · refine ⟨g.ev.le, g.ev.next, g.ev.size, fun b' l1 a1 a2 a3 => ⟨b', l1, a1, a2, rfl⟩, g.ev.keep, g.ev.os, g.ev.tape, g.ev.output, g.ev.ids⟩
    · obtain ⟨lo, hi⟩ := fr
      have hlt : l.blk < w.heap.size := (Array.getElem?_eq_some_iff.1 h2).1
      refine ⟨l, c, (if lo == hi then (c.size, c.size + 1) else (min lo c.size, max hi (c.size + 1))), hl, ?_, ?_, h4, h5, h6, h7.1, fun q => by rw [hU] at q; cases q⟩
      · simp only [World.freeze, Nat.succ_ne_zero, if_false, Array.getElem?_modify, if_true, h2, Option.map_some]
      · rcases h3 with h3 | h3
        · simp only at h3; subst h3; simp; exact .inr (Nat.le_refl _)
        · simp only at h3
          by_cases e1 : lo = hi
          · subst e1; simp; exact .inr (Nat.le_refl _)
          · simp only [beq_iff_eq, e1, if_false]; right; simp only; omega

theorem s_convert (h : At P ρ H w tm a W) (ha : AtOk ρ H at_) {src d : TypeId} {x : Operand} (hx : OkW P W x) (he : (aopF P (.convert src d x)).val tm H at_ = some out) :
    OpRes at_ P ρ H w out ((execOp a.eval ⟨dst, .convert src d x, type, pos, after, guard⟩).run P w) := by
  simp only [aopF, b1, bx_eq] at he
  cases hk : ckOf P src d with
  | none => simp [hk, oConv, dead] at he
  | some k =>
    have rx := h.opd hx
    cases k with
    | int k =>
      obtain ⟨sd, h1, h2⟩ := ck_int hk
      simp only [hk, oConv, val_mk, opdB_val] at he
      split at he
      · rename_i q n e
        rw [e] at rx
        cases he
        refine .pure h.real (v' := .int k (k.wrap n)) ?_ (by simp [Rel])
        cases sd <;> simp [execOp, convert, run_und h1, run_und h2, rel_int rx, Conv.intToInt]
      · cases he
    | str =>
      obtain ⟨h1, h2⟩ := ck_str hk
      simp only [hk, oConv, val_mk, opdB_val] at he
      split at he
      · rename_i s e
        rw [e] at rx
        cases he
        refine .pure h.real (v' := .string ⟨s.toArray⟩) ?_ rfl
        simp [execOp, convert, run_und h1, run_und h2, rel_str rx]
      · cases he
    | bytes e =>
      obtain ⟨h1, h2, h3⟩ := ck_bytes hk
      obtain ⟨h4, h5⟩ := isU8_some h3
      simp only [hk, oConv, val_mk, opdB_val] at he
      split at he
      · rename_i s e1
        rw [e1] at rx
        simp only [newTo_eq, Option.some.injEq] at he
        subst he
        have hss : (⟨s.toArray⟩ : ByteArray).size = s.length := by simp [ByteArray.size]
        obtain ⟨cap, hcap, hcw⟩ : ∃ cap, s.length ≤ cap ∧ (choose (.appendCap s.length 0 e)).run P w = .ok cap { w with drawn := w.drawn + 1 } :=
          ⟨_, Nat.le_add_right _ _, by simp [choose, Sem.run, Question.forced, Question.cut]; rfl⟩
        have g0 := Good.drew (k := at_) h.real (w.drawn + 1)
        have hrel : RelL ρ (s.map fun b => AV.int .u8 b.toNat) (s.map fun b => Value.int .u8 b.toNat) := by
          refine .of_get (by simp) fun i x y hx hy => ?_
          simp only [List.getElem?_map] at hx hy
          cases hq : s[i]? with
          | none => rw [hq] at hx; cases hx
          | some b => rw [hq] at hx hy; cases hx; cases hy; rfl
        have g1 := g0.real.newRow (at_ := at_) ha (e := e) (cs := s.map fun b => AV.int .u8 b.toNat) (c := (s.map fun b => Value.int .u8 b.toNat) ++ List.replicate (cap - s.length) (.int .u8 0)) (sp := cap - s.length)
          (by rw [List.take_append_of_le_length (by simp), List.take_of_length_le (by simp)]; exact hrel) (by intro x hx; simp at hx; obtain ⟨b, _, rfl⟩ := hx; rfl) (by simp [cellsOf_eq h5])
          (fun i v a1 _ a3 => by
            rw [List.getElem?_append_right (by simpa using a1), List.getElem?_replicate] at a3
            split at a3 <;> cases a3; rfl)
        obtain ⟨w', h6, g2⟩ := g1.real.stringish (b := idOf H at_) (e := e) h3 (cs := s.map fun b => AV.int .u8 b.toNat) (by rw [get_newH]; simp) (with_same _ _) (o := 0)
        refine ⟨_, _, w', ?_, ⟨_, with_same _ _, rfl⟩, (g0.trans g1).trans g2⟩
        have e2 : (Array.map (fun (b : UInt8) => Value.int .u8 b.toNat) s.toArray ++ Array.replicate (cap - s.length) (Value.int .u8 0)) = ((s.map fun (b : UInt8) => Value.int .u8 b.toNat) ++ List.replicate (cap - s.length) (Value.int .u8 0)).toArray := by
          apply Array.ext'; simp
        simp only [execOp, convert, Sem.run_bind, run_und h1, run_und h2, run_und h4, rel_str rx, Result.andThen_ok, Conv.stringToBytes, hss, hcw, Go.newRow, run_newObj, Sem.run_pure, e2, h6]
        simp only [List.length_map, Bool.false_eq_true, if_false]
        congr 4
        omega
      · cases he
    | same e =>
      obtain ⟨e', h1, h2, h3, rfl⟩ := ck_same hk
      obtain ⟨h4, _⟩ := isU8_some h3
      simp only [hk, oConv, val_mk, opdB_val] at he
      split at he
      · rename_i b o len cap ex e1
        rw [e1] at rx
        simp only [cellsTo_eq_some, br_some_none, Option.some.injEq] at he
        obtain ⟨t, cs, hb, hte, rfl⟩ := he
        obtain rfl := Nat.eq_of_beq_eq_true hte
        obtain ⟨l, hl, hv⟩ := rel_slice rx
        obtain ⟨w', h6, g⟩ := h.real.stringish h3 hb hl (o := l.off + o)
        refine ⟨ρ, _, w', ?_, ⟨l, hl, rfl⟩, g⟩
        simp [execOp, convert, run_und h2, run_und h4, hv, h6]
      · cases he
    | text =>
      obtain ⟨e, h1, h2, h3⟩ := ck_text hk
      obtain ⟨h4, _⟩ := isU8_some h3
      simp only [hk, oConv, val_mk, opdB_val] at he
      split at he
      · cases he
      · rename_i hns
        simp only [ob_eq_some, Option.some.injEq] at he
        obtain ⟨n, hn, cs, hcs, bs, hbs, rfl⟩ := he
        obtain ⟨vs, h5, h6, h7, _⟩ := cells_run h.real hcs rx
        obtain ⟨ns, rfl, rfl⟩ := allM_bytes hbs h6
        refine .pure h.real (v' := .string ⟨(ns.map fun (n : Int) => UInt8.ofNat n.toNat).toArray⟩) ?_ rfl
        suffices hs : (Conv.bytesToString (a.eval x)).run P w = .ok (.string ⟨(ns.map fun (n : Int) => UInt8.ofNat n.toNat).toArray⟩) w ∧ ∃ p m c, a.eval x = .slice p m c by
          obtain ⟨hs, p, m, c, hp⟩ := hs
          rw [hp] at hs
          simp only [execOp, Sem.run_bind, hp, run_convert_bytes_string w src d e p m c h1 h4 h2, hs, Result.andThen_ok, Sem.run_pure]
        generalize opd tm x = u at hn hcs rx hns
        unfold lenA at hn
        split at hn
        · rename_i p m c ex
          simp only [Option.some.injEq] at hn
          subst hn
          rcases p with _ | ⟨b, o⟩
          · rw [rel_nilSlice rx] at h5 ⊢
            refine ⟨?_, _, _, _, rfl⟩
            simp only [Builtin.firstCells, Sem.run_pure, Result.ok.injEq, and_true] at h5
            have h8 : ns = [] := by
              have := congrArg Array.size h5
              simp at this
              exact List.eq_nil_of_length_eq_zero this.symm
            subst h8
            rfl
          · obtain ⟨l, hl, hv⟩ := rel_slice rx
            rw [hv] at h5 ⊢
            refine ⟨?_, _, _, _, rfl⟩
            rw [run_bytesToString w _ _ _ ns (by simpa [Builtin.firstCells] using h5), foldl_push]
            congr 3
            apply Array.ext'; simp
        · cases hn
          obtain ⟨l, p, q, hl, hv, _⟩ := rel_tail rx
          rw [hv] at h5 ⊢
          refine ⟨?_, _, _, _, rfl⟩
          rw [run_bytesToString w _ _ _ ns (by simpa [Builtin.firstCells] using h5), foldl_push]
          congr 3
          apply Array.ext'; simp
        · exact absurd rfl (hns _)
        · cases hn

theorem s_iface (h : At P ρ H w tm a W) {t : TypeId} {x : Operand} (hx : OkW P W x) (he : (aopF P (.makeInterface t x)).val tm H at_ = some out) :
    OpRes at_ P ρ H w out ((execOp a.eval ⟨dst, .makeInterface t x, type, pos, after, guard⟩).run P w) := by
  simp only [aopF, b1, bx_eq] at he
  have rx := h.opd hx
  cases hu : P.underlying t with
  | none => simp [hu, oIface, dead] at he
  | some d =>
    rw [hu] at he
    cases d <;> simp only [oIface, dead, val_mk, opdB_val, Option.some.injEq] at he <;> (try (cases he; done)) <;> subst he <;>
      exact .pure h.real (v' := .iface t (a.eval x)) (by simp [execOp, Instr.makeInterface, run_und hu]) ⟨_, rfl, rx⟩

theorem s_func (h : At P ρ H w tm a W) {f : Fn} {xs ys : Array Operand} (hx : ∀ x ∈ xs.toList, OkW P W x) (hy : ∀ x ∈ ys.toList, OkW P W x) (he : (aopF P (.makeFunc f xs ys)).val tm H at_ = some out) :
    OpRes at_ P ρ H w out ((execOp a.eval ⟨dst, .makeFunc f xs ys, type, pos, after, guard⟩).run P w) := by
  simp only [aopF, bx_eq] at he
  have rx := h.opds hx
  have ry := h.opds hy
  have : out = .val (.fn f (xs.toList.map (opd tm)) (ys.toList.map (opd tm))) H := by
    unfold oFunc at he
    split at he
    · simp [dead] at he
    · simp at he; exact he.symm
  subst this
  refine .pure h.real (v' := .func f (xs.map a.eval) (ys.map a.eval)) (by simp [execOp, Instr.makeFunc]) ⟨xs.toList.map a.eval, ys.toList.map a.eval, by congr 1 <;> (apply Array.ext'; simp), rx, ry⟩

theorem s_makeMap (h : At P ρ H w tm a W) (ha : AtOk ρ H at_) {t : TypeId} {r : Option Operand} (he : (aopF P (.makeMap t r)).val tm H at_ = some out) :
    OpRes at_ P ρ H w out ((execOp a.eval ⟨dst, .makeMap t r, type, pos, after, guard⟩).run P w) := by
  simp only [aopF] at he
  cases r with
  | some r => simp [oMap, dead] at he
  | none =>
    simp only [oMap, val_mk, newTo_eq, Option.some.injEq] at he
    subst he
    have g := h.real.new (l := ⟨w.heap.size, 0, 0⟩) (x := .mp [] 0) (w' := { w with heap := w.heap.push (.map #[] 0) }) ha (by simp) (by simp) (fun k hk => heap_push_lt _ k hk) (Nat.le_refl _)
      ⟨_, [], with_same _ _, by show (w.heap.push _)[w.heap.size]? = _; simp, rfl⟩ rfl rfl rfl
    exact ⟨_, _, _, by simp [execOp, Instr.makeMap], ⟨_, with_same _ _, rfl⟩, g⟩

end ops
end Go.Ab
