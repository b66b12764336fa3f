/- How an abstract value and an abstract heap stand for a value and a world. -/
import Derived.Test.YtoafnnphjbdedaaGreatDoorAbC
import Derived.Below
namespace Go.Ab

/-- Where an abstract block lies: its block, from which cell on; how many elements more there is room for. -/
structure Loc where
  blk : Nat
  off : Nat
  spare : Nat

abbrev Env := Nat → Option Loc
def Le (ρ ρ' : Env) : Prop := ∀ b l, ρ b = some l → ρ' b = some l
theorem Le.refl (ρ : Env) : Le ρ ρ := fun _ _ h => h
theorem Le.trans {a b c : Env} (h : Le a b) (k : Le b c) : Le a c := fun _ _ x => k _ _ (h _ _ x)

mutual
def Rel (ρ : Env) : AV → Value → Prop
  | .bool b => fun v => v = .bool b
  | .int k n => fun v => v = .int k n
  | .str s => fun v => v = .string ⟨s.toArray⟩
  | .ptr none => fun v => v = .pointer none
  | .ptr (some (b, o)) => fun v => ∃ l, ρ b = some l ∧ v = .pointer (some ⟨l.blk, l.off + o, none⟩)
  | .slice none n c _ => fun v => v = .slice none n c
  | .slice (some (b, o)) n c ex => fun v => ∃ l, ρ b = some l ∧ v = .slice (some ⟨l.blk, l.off + o, none⟩) n (if ex then c else c + l.spare)
  | .tail b o => fun v => ∃ l a cap, ρ b = some l ∧ v = .slice (some ⟨l.blk, a, none⟩) 0 cap ∧ (cap = 0 ∨ (cap = l.spare ∧ a = l.off + o))
  | .map none => fun v => v = .map none
  | .map (some m) => fun v => ∃ l, ρ m = some l ∧ v = .map (some l.blk)
  | .fn f a c => fun v => ∃ a' c', v = .func f a'.toArray c'.toArray ∧ RelL ρ a a' ∧ RelL ρ c c'
  | .yld l => fun v => ∃ q, ρ l = some q ∧ v = .func (.yield q.blk) #[] #[]
  | .nilFn => fun v => v = .nilFunc
  | .iface t x => fun v => ∃ y, v = .iface t y ∧ Rel ρ x y
  | .nilIface => fun v => v = .nilIface
  | .agg cs => fun v => ∃ cs', v = .agg cs'.toArray ∧ RelL ρ cs cs'
  | .tup cs => fun v => ∃ cs', v = .tuple cs'.toArray ∧ RelL ρ cs cs'
  | .any => fun _ => False
  termination_by structural x => x
def RelL (ρ : Env) : List AV → List Value → Prop
  | [] => fun vs => vs = []
  | x :: xs => fun vs => ∃ y ys, vs = y :: ys ∧ Rel ρ x y ∧ RelL ρ xs ys
  termination_by structural x => x
end

mutual
theorem Rel.mono {ρ ρ' : Env} (h : Le ρ ρ') : ∀ (x : AV) {v : Value}, Rel ρ x v → Rel ρ' x v
  | .bool _, _, e => e
  | .int _ _, _, e => e
  | .str _, _, e => e
  | .ptr none, _, e => e
  | .ptr (some (_, _)), _, ⟨l, h1, h2⟩ => ⟨l, h _ _ h1, h2⟩
  | .slice none _ _ _, _, e => e
  | .slice (some (_, _)) _ _ _, _, ⟨l, h1, h2⟩ => ⟨l, h _ _ h1, h2⟩
  | .tail _ _, _, ⟨l, a, c, h1, h2⟩ => ⟨l, a, c, h _ _ h1, h2⟩
  | .map none, _, e => e
  | .map (some _), _, ⟨l, h1, h2⟩ => ⟨l, h _ _ h1, h2⟩
  | .fn _ a c, _, ⟨a', c', h1, h2, h3⟩ => ⟨a', c', h1, RelL.mono h a h2, RelL.mono h c h3⟩
  | .yld _, _, ⟨l, h1, h2⟩ => ⟨l, h _ _ h1, h2⟩
  | .nilFn, _, e => e
  | .iface _ x, _, ⟨y, h1, h2⟩ => ⟨y, h1, Rel.mono h x h2⟩
  | .nilIface, _, e => e
  | .agg cs, _, ⟨cs', h1, h2⟩ => ⟨cs', h1, RelL.mono h cs h2⟩
  | .tup cs, _, ⟨cs', h1, h2⟩ => ⟨cs', h1, RelL.mono h cs h2⟩
  | .any, _, e => e.elim
theorem RelL.mono {ρ ρ' : Env} (h : Le ρ ρ') : ∀ (xs : List AV) {vs : List Value}, RelL ρ xs vs → RelL ρ' xs vs
  | [], _, e => e
  | x :: xs, _, ⟨y, ys, h1, h2, h3⟩ => ⟨y, ys, h1, Rel.mono h x h2, RelL.mono h xs h3⟩
end

theorem RelL.nil {ρ : Env} : RelL ρ [] [] := rfl
theorem RelL.cons {ρ : Env} {x : AV} {y : Value} {xs : List AV} {ys : List Value} (h : Rel ρ x y) (k : RelL ρ xs ys) : RelL ρ (x :: xs) (y :: ys) := ⟨y, ys, rfl, h, k⟩
theorem relL_cons {ρ : Env} {x : AV} {y : Value} {xs : List AV} {ys : List Value} : RelL ρ (x :: xs) (y :: ys) ↔ Rel ρ x y ∧ RelL ρ xs ys :=
  ⟨by rintro ⟨_, _, h, h1, h2⟩; cases h; exact ⟨h1, h2⟩, fun h => .cons h.1 h.2⟩
theorem RelL.length {ρ : Env} : ∀ {xs : List AV} {ys : List Value}, RelL ρ xs ys → ys.length = xs.length
  | [], _, h => by cases h; rfl
  | _ :: xs, _, ⟨_, _, h, _, h2⟩ => by subst h; simp [RelL.length h2]
theorem RelL.get {ρ : Env} : ∀ {xs : List AV} {ys : List Value}, RelL ρ xs ys → ∀ {i : Nat} {x : AV}, xs[i]? = some x → ∃ y, ys[i]? = some y ∧ Rel ρ x y
  | [], _, _, i, x, hx => by simp at hx
  | a :: xs, _, ⟨y, ys, h, h1, h2⟩, i, x, hx => by
    subst h
    cases i with
    | zero => simp at hx; subst hx; exact ⟨y, rfl, h1⟩
    | succ i => exact RelL.get h2 (by simpa using hx)
theorem RelL.of_get {ρ : Env} : ∀ {xs : List AV} {ys : List Value}, ys.length = xs.length → (∀ (i : Nat) (x : AV) (y : Value), xs[i]? = some x → ys[i]? = some y → Rel ρ x y) → RelL ρ xs ys
  | [], ys, hl, _ => by cases ys with | nil => rfl | cons _ _ => simp at hl
  | x :: xs, ys, hl, h => by
    cases ys with
    | nil => simp at hl
    | cons y ys => exact .cons (h 0 x y rfl rfl) (RelL.of_get (by simpa using hl) fun i a b ha hb => h (i + 1) a b (by simpa using ha) (by simpa using hb))
theorem RelL.append {ρ : Env} : ∀ {xs : List AV} {ys : List Value}, RelL ρ xs ys → ∀ {as bs}, RelL ρ as bs → RelL ρ (xs ++ as) (ys ++ bs)
  | [], _, h, as, bs, k => by cases h; exact k
  | x :: xs, _, ⟨y, ys, h, h1, h2⟩, as, bs, k => by subst h; exact .cons h1 (RelL.append h2 k)
theorem RelL.take {ρ : Env} {xs : List AV} {ys : List Value} (h : RelL ρ xs ys) (n : Nat) : RelL ρ (xs.take n) (ys.take n) := by
  refine .of_get (by simp [h.length]) fun i x y hx hy => ?_
  rw [List.getElem?_take] at hx hy
  split at hx
  · obtain ⟨y', h1, h2⟩ := h.get hx
    simp_all
  · cases hx
theorem RelL.drop {ρ : Env} {xs : List AV} {ys : List Value} (h : RelL ρ xs ys) (n : Nat) : RelL ρ (xs.drop n) (ys.drop n) := by
  refine .of_get (by simp [h.length]) fun i x y hx hy => ?_
  rw [List.getElem?_drop] at hx hy
  obtain ⟨y', h1, h2⟩ := h.get hx
  simp_all
theorem RelL.replicate {ρ : Env} {x : AV} {y : Value} (h : Rel ρ x y) (n : Nat) : RelL ρ (List.replicate n x) (List.replicate n y) := by
  induction n with
  | zero => rfl
  | succ n ih => exact .cons h ih
theorem RelL.getD {ρ : Env} {xs : List AV} {ys : List Value} (h : RelL ρ xs ys) {d : AV} {d' : Value} (hd : Rel ρ d d') (i : Nat) : Rel ρ (xs.getD i d) (ys.getD i d') := by
  rw [List.getD_eq_getElem?_getD, List.getD_eq_getElem?_getD]
  cases hx : xs[i]? with
  | none =>
    have : ys[i]? = none := by rw [List.getElem?_eq_none_iff] at hx ⊢; rw [h.length]; exact hx
    simpa [this] using hd
  | some x => obtain ⟨y, h1, h2⟩ := h.get hx; simpa [h1] using h2
theorem rel_undef {ρ : Env} : Rel ρ undefA undef := ⟨[], rfl, rfl⟩

theorem Rel.one {ρ : Env} {x : AV} {v : Value} (h : Rel ρ x v) : v.oneCell' = x.one := by
  cases x with
  | ptr p => rcases p with _ | ⟨b, o⟩ <;> first | (cases h; rfl) | (obtain ⟨l, _, h⟩ := h; cases h; rfl)
  | slice p n c ex => rcases p with _ | ⟨b, o⟩ <;> first | (cases h; rfl) | (obtain ⟨l, _, h⟩ := h; cases h; rfl)
  | map p => cases p <;> first | (cases h; rfl) | (obtain ⟨l, _, h⟩ := h; cases h; rfl)
  | tail b o => obtain ⟨l, a, c, _, h, _⟩ := h; cases h; rfl
  | fn f a c => obtain ⟨a', c', h, _⟩ := h; cases h; rfl
  | yld l => obtain ⟨q, _, h⟩ := h; cases h; rfl
  | iface t x => obtain ⟨y, h, _⟩ := h; cases h; rfl
  | agg cs => obtain ⟨y, h, _⟩ := h; cases h; rfl
  | tup cs => obtain ⟨y, h, _⟩ := h; cases h; rfl
  | any => cases h
  | _ => cases h; rfl
theorem Rel.parts {ρ : Env} {x : AV} {v : Value} (h : Rel ρ x v) : RelL ρ x.parts v.cells.toList := by
  cases x with
  | agg cs => obtain ⟨y, e, h⟩ := h; subst e; exact h
  | ptr p => rcases p with _ | ⟨b, o⟩ <;> first | (cases h; exact .cons rfl rfl) | (obtain ⟨l, h1, h⟩ := h; cases h; exact .cons ⟨l, h1, rfl⟩ rfl)
  | slice p n c ex => rcases p with _ | ⟨b, o⟩ <;> first | (cases h; exact .cons rfl rfl) | (obtain ⟨l, h1, h⟩ := h; cases h; exact .cons ⟨l, h1, rfl⟩ rfl)
  | map p => cases p <;> first | (cases h; exact .cons rfl rfl) | (obtain ⟨l, h1, h⟩ := h; cases h; exact .cons ⟨l, h1, rfl⟩ rfl)
  | tail b o => obtain ⟨l, a, c, h1, h, h2⟩ := h; cases h; exact .cons ⟨l, a, c, h1, rfl, h2⟩ rfl
  | fn f a c => obtain ⟨a', c', h, h2⟩ := h; cases h; exact .cons ⟨a', c', rfl, h2⟩ rfl
  | yld l => obtain ⟨q, h1, h⟩ := h; cases h; exact .cons ⟨q, h1, rfl⟩ rfl
  | iface t x => obtain ⟨y, h, h2⟩ := h; cases h; exact .cons ⟨y, rfl, h2⟩ rfl
  | tup cs => obtain ⟨y, h, h2⟩ := h; cases h; exact .cons ⟨y, rfl, h2⟩ rfl
  | any => cases h
  | _ => cases h; exact .cons rfl rfl

/-- The temporaries. -/
structure TmRel (ρ : Env) (n : Nat) (tm : TM0) (tmps : Array Value) : Prop where
  size : tmps.size = n
  room : ∀ i, i < n → tm.has i = true
  rel : ∀ i, Rel ρ (tm.get i) (tmps.getD i undef)
theorem TmRel.mono {ρ ρ' : Env} (h : Le ρ ρ') {n : Nat} {tm : TM0} {tmps : Array Value} (k : TmRel ρ n tm tmps) : TmRel ρ' n tm tmps :=
  ⟨k.size, k.room, fun i => (k.rel i).mono h⟩
theorem TmRel.set {ρ : Env} {n : Nat} {tm : TM0} {tmps : Array Value} (k : TmRel ρ n tm tmps) {d : Nat} (hd : d < n) {x : AV} {v : Value} (h : Rel ρ x v) :
    TmRel ρ n (tm.set d x) (tmps.setIfInBounds d v) := by
  refine ⟨by simpa using k.size, fun i hi => by rw [TM0.has_set]; exact k.room i hi, fun i => ?_⟩
  rw [TM0.get_set _ _ _ (k.room d hd)]
  have hs := k.size
  by_cases e : i = d
  · subst e
    have : (tmps.setIfInBounds i v).getD i undef = v := by simp [Array.getD_eq_getD_getElem?, Array.getElem?_setIfInBounds_self, hs, hd]
    simpa [this] using h
  · have : (tmps.setIfInBounds d v).getD i undef = tmps.getD i undef := by
      simp [Array.getD_eq_getD_getElem?, Array.getElem?_setIfInBounds_ne (Ne.symm e)]
    simpa [this, e] using k.rel i

/-- The entries of a map. -/
def RelE (ρ : Env) (x : AV × AV × Nat) (e : MapEntry) : Prop := Rel ρ x.1 e.key ∧ Rel ρ x.2.1 e.val ∧ e.born = x.2.2
def RelEs (ρ : Env) : List (AV × AV × Nat) → List MapEntry → Prop
  | [], es => es = []
  | x :: xs, es => ∃ y ys, es = y :: ys ∧ RelE ρ x y ∧ RelEs ρ xs ys
theorem RelEs.mono {ρ ρ' : Env} (h : Le ρ ρ') : ∀ {xs : List (AV × AV × Nat)} {es : List MapEntry}, RelEs ρ xs es → RelEs ρ' xs es
  | [], _, e => e
  | _ :: _, _, ⟨y, ys, h1, h2, h3⟩ => ⟨y, ys, h1, ⟨h2.1.mono h, h2.2.1.mono h, h2.2.2⟩, RelEs.mono h h3⟩

/-- Of a cell may be nothing known. -/
def RelC (ρ : Env) (x : AV) (v : Value) : Prop := Rel ρ x v ∨ x = .any ∧ v.oneCell' = true
theorem RelC.mono {ρ ρ' : Env} (h : Le ρ ρ') {x : AV} {v : Value} : RelC ρ x v → RelC ρ' x v
  | .inl r => .inl (r.mono h)
  | .inr r => .inr r
theorem RelC.one {ρ : Env} {x : AV} {v : Value} : RelC ρ x v → v.oneCell' = x.one
  | .inl r => r.one
  | .inr ⟨e, r⟩ => by subst e; exact r
theorem RelC.rel {ρ : Env} {x : AV} {v : Value} (h : RelC ρ x v) (k : x.known = true) : Rel ρ x v := by
  rcases h with h | ⟨rfl, -⟩
  · exact h
  · cases k

/-- No cell of the row is shared with a string. -/
def Thawed (n : Nat) (fr : Nat × Nat) : Prop := fr.1 = fr.2 ∨ n ≤ fr.1

/-- Code that stands somewhere in the program. -/
inductive InProg (P : Program) : Code → Prop
  | body {f : FuncId} {fn : Func} {c : Code} (h : P.funcs[f]? = some fn) (hb : fn.body = some c) : InProg P c
  | seqL {a b : Code} (h : InProg P (.seq a b)) : InProg P a
  | seqR {a b : Code} (h : InProg P (.seq a b)) : InProg P b
  | condL {x : Operand} {a b : Code} (h : InProg P (.cond x a b)) : InProg P a
  | condR {x : Operand} {a b : Code} (h : InProg P (.cond x a b)) : InProg P b
  | block {i : Nat} {a : Code} (h : InProg P (.block i a)) : InProg P a
  | loop {a : Code} (h : InProg P (.loop a)) : InProg P a
  | rangeL {g : Operand} {ps : Array Tmp} {a b : Code} (h : InProg P (.rangeFunc g ps a b)) : InProg P a
  | rangeR {g : Operand} {ps : Array Tmp} {a b : Code} (h : InProg P (.rangeFunc g ps a b)) : InProg P b

/-- Block b of the abstract heap, as it lies in the world. -/
def Lies (P : Program) (ρ : Env) (w : World) (b : Nat) : ABlk → Prop
  | .cells e cs => ∃ l c fr, ρ b = some l ∧ w.heap[l.blk]? = some (.cells c e fr) ∧ Thawed c.size fr ∧ l.off + cs.length + l.spare * P.cellsOf e ≤ c.size ∧
      (∀ x ∈ cs, x.one = true) ∧ (∀ i x, cs[i]? = some x → ∃ v, c[l.off + i]? = some v ∧ RelC ρ x v) ∧
      (∀ i v, cs.length ≤ i → i < cs.length + l.spare * P.cellsOf e → c[l.off + i]? = some v → v.oneCell' = true) ∧
      (isU8 P e = false → fr.1 = fr.2)
  | .mp es clk => ∃ l es', ρ b = some l ∧ w.heap[l.blk]? = some (.map es'.toArray clk) ∧ RelEs ρ es es'
  | .loop st pend _ tm ps asg body d => ∃ l ld tmps n fn, ρ b = some l ∧ ρ d = some ld ∧
      w.heap[l.blk]? = some (.loop { state := st, pending := pend, fn := fn, tmps := tmps, params := ps, assign := asg, body := body, defers := ld.blk }) ∧
      TmRel ρ n tm tmps ∧ InProg P asg ∧ InProg P body ∧ codeOk P n asg = true ∧ codeOk P n body = true ∧ ∀ t ∈ ps, t < n
  | .defd => ∃ l, ρ b = some l ∧ w.heap[l.blk]? = some (.deferred (some []))
  | .ro ob f => ∃ l c e fr, ρ b = some l ∧ w.heap[l.blk]? = some ob ∧ ob = .cells c e fr ∧ ∀ i x, f i = some x → x.one = true ∧ ∃ v, c[l.off + i]? = some v ∧ Rel ρ x v

/-- The abstract heap stands for the world. -/
structure Real (P : Program) (ρ : Env) (H : AH) (w : World) : Prop where
  lies : ∀ b x, H.get b = some x → Lies P ρ w b x
  inj : ∀ b b' l l', H.get b ≠ none → H.get b' ≠ none → ρ b = some l → ρ b' = some l' → l.blk = l'.blk → b = b'
  fresh : ∀ b, H.next ≤ b → ρ b = none
  glob' : ∀ g, g < P.globals.size + 1 → ρ g = some ⟨g, 0, 0⟩
theorem Real.glob {P : Program} {ρ : Env} {H : AH} {w : World} (h : Real P ρ H w) (g : Nat) (hg : g < P.globals.size) : ρ g = some ⟨g, 0, 0⟩ := h.glob' g (Nat.lt_succ_of_lt hg)
theorem Real.hand {P : Program} {ρ : Env} {H : AH} {w : World} (h : Real P ρ H w) : ρ P.globals.size = some ⟨P.globals.size, 0, 0⟩ := h.glob' _ (Nat.lt_succ_self _)

theorem Lies.loc {P : Program} {ρ : Env} {w : World} {b : Nat} {x : ABlk} (h : Lies P ρ w b x) : ∃ l, ρ b = some l := by
  cases x with
  | cells e cs => obtain ⟨l, _, _, h, _⟩ := h; exact ⟨l, h⟩
  | mp es clk => obtain ⟨l, _, h, _⟩ := h; exact ⟨l, h⟩
  | loop st pend fn tm ps asg body d => obtain ⟨l, _, _, _, _, h, _⟩ := h; exact ⟨l, h⟩
  | defd => obtain ⟨l, h, _⟩ := h; exact ⟨l, h⟩
  | ro ob f => obtain ⟨l, _, _, _, h, _⟩ := h; exact ⟨l, h⟩
theorem Lies.inb {P : Program} {ρ : Env} {w : World} {b : Nat} {x : ABlk} (h : Lies P ρ w b x) {l : Loc} (hl : ρ b = some l) : l.blk < w.heap.size := by
  have key : ∀ {l' : Loc} {o : Obj}, ρ b = some l' → w.heap[l'.blk]? = some o → l.blk < w.heap.size := by
    intro l' o h1 h2
    rw [hl] at h1; cases h1
    exact (Array.getElem?_eq_some_iff.1 h2).1
  cases x with
  | cells e cs => obtain ⟨l', c, fr, h1, h2, _⟩ := h; exact key h1 h2
  | mp es clk => obtain ⟨l', _, h1, h2, _⟩ := h; exact key h1 h2
  | loop st pend fn tm ps asg body d => obtain ⟨l', _, _, _, _, h1, _, h2, _⟩ := h; exact key h1 h2
  | defd => obtain ⟨l', h1, h2⟩ := h; exact key h1 h2
  | ro ob f => obtain ⟨l', _, _, _, h1, h2, _⟩ := h; exact key h1 h2
theorem Real.inb {P : Program} {ρ : Env} {H : AH} {w : World} (h : Real P ρ H w) {b : Nat} (hb : H.get b ≠ none) {l : Loc} (hl : ρ b = some l) : l.blk < w.heap.size := by
  cases hx : H.get b with
  | none => exact absurd hx hb
  | some x => exact (h.lies b x hx).inb hl
theorem Lies.mono {P : Program} {ρ ρ' : Env} (h : Le ρ ρ') {w w' : World} {b : Nat} {x : ABlk} (k : Lies P ρ w b x) (hw : ∀ l, ρ b = some l → w'.heap[l.blk]? = w.heap[l.blk]?) : Lies P ρ' w' b x := by
  cases x with
  | cells e cs =>
    obtain ⟨l, c, fr, h1, h2, h3, h4, h5, h6, h7⟩ := k
    exact ⟨l, c, fr, h _ _ h1, (hw l h1).trans h2, h3, h4, h5, fun i x hx => let ⟨v, a, r⟩ := h6 i x hx; ⟨v, a, r.mono h⟩, h7⟩
  | mp es clk => obtain ⟨l, es', h1, h2, h3⟩ := k; exact ⟨l, es', h _ _ h1, (hw l h1).trans h2, h3.mono h⟩
  | loop st pend fn tm ps asg body d =>
    obtain ⟨l, ld, tmps, n, fn, h1, h2, h3, h4, h5⟩ := k
    exact ⟨l, ld, tmps, n, fn, h _ _ h1, h _ _ h2, (hw l h1).trans h3, h4.mono h, h5⟩
  | defd => obtain ⟨l, h1, h2⟩ := k; exact ⟨l, h _ _ h1, (hw l h1).trans h2⟩
  | ro ob f => obtain ⟨l, c, e, fr, h1, h2, h3, h4⟩ := k; exact ⟨l, c, e, fr, h _ _ h1, (hw l h1).trans h2, h3, fun i x hx => let ⟨q, v, a, r⟩ := h4 i x hx; ⟨q, v, a, r.mono h⟩⟩

/-- What a step leaves alone: what was there and is owned by no abstract block. -/
structure Ev (k : Option Nat) (ρ : Env) (H : AH) (w : World) (ρ' : Env) (H' : AH) (w' : World) : Prop where
  le : Le ρ ρ'
  next : H.next ≤ H'.next
  size : w.heap.size ≤ w'.heap.size
  own : ∀ b' l, H'.get b' ≠ none → ρ' b' = some l → l.blk < w.heap.size → ∃ b l0, H.get b ≠ none ∧ ρ b = some l0 ∧ l0.blk = l.blk
  keep : ∀ B, B < w.heap.size → (∀ b l, H.get b ≠ none → ρ b = some l → l.blk ≠ B) → w'.heap[B]? = w.heap[B]?
  os : w'.os = w.os
  tape : w'.tape = w.tape
  output : w'.output = w.output
  ids : ∀ b, b < H.next → ρ b = none → k ≠ some b → ρ' b = none

theorem Ev.refl {k : Option Nat} (ρ : Env) (H : AH) (w : World) : Ev k ρ H w ρ H w :=
  ⟨.refl ρ, Nat.le_refl _, Nat.le_refl _, fun b l h1 h2 _ => ⟨b, l, h1, h2, rfl⟩, fun _ _ _ => rfl, rfl, rfl, rfl, fun _ _ h _ => h⟩
theorem Ev.trans {k0 : Option Nat} {ρ ρ' ρ'' : Env} {H H' H'' : AH} {w w' w'' : World} (h : Ev k0 ρ H w ρ' H' w') (k : Ev k0 ρ' H' w' ρ'' H'' w'') : Ev k0 ρ H w ρ'' H'' w'' := by
  refine ⟨h.le.trans k.le, Nat.le_trans h.next k.next, Nat.le_trans h.size k.size, fun b l h1 h2 h3 => ?_, fun B hB hn => ?_, k.os.trans h.os, k.tape.trans h.tape, k.output.trans h.output, fun b h1 h2 h3 => k.ids b (Nat.lt_of_lt_of_le h1 h.next) (h.ids b h1 h2 h3) h3⟩
  · obtain ⟨b1, l1, a1, a2, a3⟩ := k.own b l h1 h2 (Nat.lt_of_lt_of_le h3 h.size)
    obtain ⟨b2, l2, c1, c2, c3⟩ := h.own b1 l1 a1 a2 (by omega)
    exact ⟨b2, l2, c1, c2, by omega⟩
  · rw [k.keep B (Nat.lt_of_lt_of_le hB h.size) fun b l h1 h2 e => ?_, h.keep B hB hn]
    obtain ⟨b2, l2, c1, c2, c3⟩ := h.own b l h1 h2 (by omega)
    exact hn b2 l2 c1 c2 (by omega)

/-- A step is good: the abstract heap stands for the world behind it, and what is not owned is left alone. -/
structure Good (k : Option Nat) (P : Program) (ρ : Env) (H : AH) (w : World) (ρ' : Env) (H' : AH) (w' : World) : Prop where
  real : Real P ρ' H' w'
  ev : Ev k ρ H w ρ' H' w'
theorem Good.trans {k0 : Option Nat} {P : Program} {ρ ρ' ρ'' : Env} {H H' H'' : AH} {w w' w'' : World} (h : Good k0 P ρ H w ρ' H' w') (k : Good k0 P ρ' H' w' ρ'' H'' w'') : Good k0 P ρ H w ρ'' H'' w'' :=
  ⟨k.real, h.ev.trans k.ev⟩
theorem Real.good {k : Option Nat} {P : Program} {ρ : Env} {H : AH} {w : World} (h : Real P ρ H w) : Good k P ρ H w ρ H w := ⟨h, .refl _ _ _⟩

/-- A draw turns nothing. -/
theorem Good.drew {k : Option Nat} {P : Program} {ρ : Env} {H : AH} {w : World} (h : Real P ρ H w) (n : Nat) : Good k P ρ H w ρ H { w with drawn := n } := by
  refine ⟨⟨fun b x hb => (h.lies b x hb).mono (.refl ρ) fun _ _ => rfl, h.inj, h.fresh, h.glob'⟩, ?_⟩
  exact ⟨.refl ρ, Nat.le_refl _, Nat.le_refl _, fun b l h1 h2 _ => ⟨b, l, h1, h2, rfl⟩, fun _ _ _ => rfl, rfl, rfl, rfl, fun _ _ h _ => h⟩

/-- What a step at all leaves below the world that it began in, if no abstract block was there: 'Below'. -/
theorem Ev.below {k : Option Nat} {ρ ρ' : Env} {H H' : AH} {w w' : World} (h : Ev k ρ H w ρ' H' w') (hH : ∀ b, H.get b = none) : RowKit.Below w.heap.size w w' :=
  ⟨h.os, h.tape, h.output, h.size, fun k hk => h.keep k hk fun b l hb => absurd (hH b) hb⟩

theorem Good.any {k : Option Nat} {P : Program} {ρ ρ' : Env} {H H' : AH} {w w' : World} (h : Good none P ρ H w ρ' H' w') : Good k P ρ H w ρ' H' w' :=
  ⟨h.real, h.ev.le, h.ev.next, h.ev.size, h.ev.own, h.ev.keep, h.ev.os, h.ev.tape, h.ev.output, fun b h1 h2 _ => h.ev.ids b h1 h2 (by simp)⟩

end Go.Ab
