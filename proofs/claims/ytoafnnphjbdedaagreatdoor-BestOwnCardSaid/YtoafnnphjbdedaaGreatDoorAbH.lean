/- Each operation, evaluated, is what the operation does (third part: operators, conversions, addresses). -/
import Derived.Test.YtoafnnphjbdedaaGreatDoorAbG
import Derived.Laws.StructEq
namespace Go.Ab
variable {P : Program} {ρ : Env} {H : AH} {w : World} {at_ : Option Nat} {W : Tmp → Prop}

/-! Operators. -/
theorem run_binI {op : BinOp} {f : IntKind → Int → Int → Option AV} (hf : binI op = some f) {k : IntKind} {x y : Int} {v : AV} (hv : f k x y = some v) {t : TypeId} (hs : op ≠ .shl ∧ op ≠ .shr) :
    ∃ v', (binOp op t (.int k x) (.int k y)).run P w = .ok v' w ∧ Rel ρ v v' := by
  cases op
  case quo =>
    simp only [binI, Option.some.injEq] at hf
    subst hf
    simp only [br_none_some, eqZ_eq, Option.some.injEq] at hv
    obtain ⟨h0, rfl⟩ := hv
    have h1 : ¬ y = 0 := by simpa using h0
    exact ⟨.int k (k.wrap (x.tdiv y)), by simp [binOp, Op.intDiv, h1], by simp [Rel]⟩
  case rem =>
    simp only [binI, Option.some.injEq] at hf
    subst hf
    simp only [br_none_some, eqZ_eq, Option.some.injEq] at hv
    obtain ⟨h0, rfl⟩ := hv
    have h1 : ¬ y = 0 := by simpa using h0
    exact ⟨.int k (x.tmod y), by simp [binOp, Op.intDiv, h1], by simp [Rel]⟩
  case andNot =>
    simp only [binI, Option.some.injEq] at hf
    subst hf
    simp only [Option.some.injEq] at hv
    subst hv
    exact ⟨.int k (k.wrap (BitVec.ofInt k.bits x &&& ~~~ BitVec.ofInt k.bits y).toNat), by simp only [binOp, ne_eq, not_true_eq_false, if_false, Op.intBits]; rfl, rfl⟩
  all_goals first
    | (simp only [binI, Option.some.injEq] at hf
       subst hf
       simp only [Option.some.injEq] at hv
       subst hv
       exact ⟨_, by simp [binOp, Op.intArith, Op.intBits, Op.intCmp]; rfl, by simp only [Rel, wrapZ_eq, eqZ_eq, ltZ_eq, leZ_eq] <;> rfl⟩)
    | exact absurd rfl hs.1
    | exact absurd rfl hs.2
    | cases hf

theorem strEq_eq (x y : List UInt8) : strEq x y = (x == y) := by
  induction x generalizing y with
  | nil => cases y <;> rfl
  | cons a x ih =>
    cases y with
    | nil => rfl
    | cons b y =>
      have e : strEq (a :: x) (b :: y) = br (Nat.beq a.toNat b.toNat) (strEq x y) false := rfl
      rw [e, ih, br_eq]
      by_cases h : a = b
      · subst h
        simp [Nat.beq_refl]
      · have : Nat.beq a.toNat b.toNat = false := by
          cases hb : Nat.beq a.toNat b.toNat
          · rfl
          · exact absurd (UInt8.toNat_inj.1 (Nat.eq_of_beq_eq_true hb)) h
        simp [this, h]

theorem bytes_toList (a : List UInt8) : (⟨a.toArray⟩ : ByteArray).toList = a := by rw [ByteArray.toList_eq]
theorem run_binS {op : BinOp} {f : List UInt8 → List UInt8 → Option AV} (hf : binS op = some f) {x y : List UInt8} {v : AV} (hv : f x y = some v) {t : TypeId} :
    ∃ v', (binOp op t (.string ⟨x.toArray⟩) (.string ⟨y.toArray⟩)).run P w = .ok v' w ∧ Rel ρ v v' := by
  have hx : (⟨x.toArray⟩ : ByteArray).size = x.length := by simp [ByteArray.size]
  have hy : (⟨y.toArray⟩ : ByteArray).size = y.length := by simp [ByteArray.size]
  have happ : (⟨x.toArray⟩ : ByteArray) ++ ⟨y.toArray⟩ = ⟨(x ++ y).toArray⟩ := by
    apply ByteArray.ext
    apply Array.ext'
    simp
  cases op
  case add =>
    simp only [binS, Option.some.injEq] at hf
    subst hf
    simp only [br_some_none, Nat.ble_eq, Option.some.injEq, joinL_eq] at hv
    obtain ⟨h0, rfl⟩ := hv
    have h1 : ¬ (((⟨x.toArray⟩ : ByteArray).size + (⟨y.toArray⟩ : ByteArray).size : Nat) : Int) > IntKind.i64.max := by
      rw [hx, hy]; simp only [IntKind.max, IntKind.signed, IntKind.bits, if_true]; omega
    exact ⟨.string ⟨(x ++ y).toArray⟩, by simp only [binOp, Op.stringOp, if_neg h1, happ]; rfl, rfl⟩
  all_goals first
    | (simp only [binS, Option.some.injEq] at hf
       subst hf
       simp only [Option.some.injEq] at hv
       subst hv
       exact ⟨_, by simp only [binOp, Op.stringOp, bytes_toList]; rfl, by simp only [Rel, strEq_eq]⟩)
    | cases hf

theorem run_shift {op : BinOp} {f : IntKind → Int → Int → Option AV} (hf : shiftF op = some f) {k k' : IntKind} {x y : Int} {v : AV} (hv : f k x y = some v) {t : TypeId} :
    ∃ v', (binOp op t (.int k x) (.int k' y)).run P w = .ok v' w ∧ Rel ρ v v' := by
  cases op <;> (try (cases hf; done)) <;> simp only [shiftF, Option.some.injEq] at hf <;> subst hf <;> simp only [br_none_some, ltZ_eq, decide_eq_false_iff_not, Option.some.injEq, wrapZ_eq] at hv <;>
    obtain ⟨h0, rfl⟩ := hv
  · exact ⟨.int k (k.wrap (x * 2 ^ (min y.toNat k.bits))), by simp only [binOp, Op.shift, if_neg h0]; rfl, rfl⟩
  · exact ⟨.int k (x.fdiv (2 ^ (min y.toNat k.bits))), by simp only [binOp, Op.shift, if_neg h0]; rfl, rfl⟩

/-! Equality. -/
theorem eqFields_run {d : Nat} {eq : TypeId → AV → AV → Option Bool} (ih : ∀ {t : TypeId} {x y : AV} {x' y' : Value} {b : Bool}, eq t x y = some b → Rel ρ x x' → Rel ρ y y' → (Op.equalIn d t x' y').run P w = .ok b w)
    {xs ys : List AV} {xs' ys' : List Value} (hx : RelL ρ xs xs') (hy : RelL ρ ys ys') : ∀ (fs : List Field) (b : Bool), eqFields P eq fs xs ys = some b →
    (Op.eqFields d xs'.toArray ys'.toArray fs).run P w = .ok b w := by
  intro fs
  induction fs with
  | nil =>
    intro b h
    simp only [eqFields, Option.some.injEq] at h
    subst h
    rfl
  | cons f fs ihf =>
    intro b h
    simp only [eqFields] at h
    split at h
    · cases h
    · rename_i hn
      simp only [ob_eq_some] at h
      obtain ⟨part, hp, x, hxv, y, hyv, e, he, h⟩ := h
      obtain ⟨q, hq, hp'⟩ := part_some hp
      obtain ⟨x', h1, h2⟩ := part_list (w := w) hp' hq hx hxv
      obtain ⟨y', h3, h4⟩ := part_list (w := w) hp' hq hy hyv
      have h5 := ih he h2 h4
      simp only [Op.eqFields, ne_eq, hn, not_false_eq_true, if_true, Sem.run_bind, h1, h3, h5, Result.andThen_ok]
      cases e with
      | false =>
        simp only [br_false, Option.some.injEq] at h
        subst h
        rfl
      | true =>
        simp only [br_true] at h
        exact ihf b h

theorem eqFlat_run : ∀ {d : Nat} {t : TypeId} {x y : AV} {x' y' : Value} {b : Bool}, eqFlat P d t x y = some b → Rel ρ x x' → Rel ρ y y' → (Op.equalIn d t x' y').run P w = .ok b w := by
  intro d
  induction d with
  | zero => intro t x y x' y' b h; cases h
  | succ d ih =>
    intro t x y x' y' b h hx hy
    simp only [eqFlat] at h
    split at h
    · rename_i hu
      cases h; cases hx; cases hy
      simp [Op.equalIn, run_und hu]
    · rename_i hu
      simp only [br_some_none, kEq_iff, Option.some.injEq, eqZ_eq] at h
      obtain ⟨rfl, rfl⟩ := h
      cases hx; cases hy
      simp [Op.equalIn, run_und hu]
    · rename_i hu
      cases h; cases hx; cases hy
      rw [run_equalIn_string _ _ _ _ _ hu, bytes_toList, bytes_toList, strEq_eq]
    · rename_i fs xs ys hu
      simp only [br_none_some] at h
      obtain ⟨hst, h⟩ := h
      obtain ⟨xs', rfl, hx2⟩ := rel_agg hx
      obtain ⟨ys', rfl, hy2⟩ := rel_agg hy
      have hf : P.fieldsOf t = fs := by simp [Program.fieldsOf, hu]
      rw [run_equalIn_struct _ _ _ _ _ (by rw [hf]; exact hu) hst, hf]
      exact eqFields_run (fun h hx hy => ih h hx hy) hx2 hy2 fs.toList b h
    · cases h

theorem isConst_eq (x : Operand) : isConst x = true ↔ ∃ v, x = .const v := by cases x <;> simp [isConst]

set_option maxHeartbeats 2000000 in
theorem eqA_run {d : Nat} {t : TypeId} {x y : Operand} {u v : AV} {u' v' : Value} {b : Bool} (h : eqA P d t (isConst x) (isConst y) u v = some b) (hu : Rel ρ u u') (hv : Rel ρ v v') {op : BinOp} (hop : op = .eql ∨ op = .neq) :
    (eqGuard op t x y u' v').run P w = .ok () w ∧ (Op.equalIn (d + 1) t u' v').run P w = .ok b w := by
  have g1 : ∀ {a c : Value}, ¬ (a = .nilIface ∧ c = .nilIface) → (∀ p q, ¬ (a = .agg p ∧ c = .agg q)) → (eqGuard op t x y a c).run P w = .ok () w := by
    intro a c h1 h2
    unfold eqGuard
    rcases hop with rfl | rfl <;> cases a <;> cases c <;> first | rfl | exact absurd ⟨rfl, rfl⟩ h1 | exact absurd ⟨rfl, rfl⟩ (h2 _ _)
  unfold eqA at h
  split at h
  · rename_i hd; cases h; cases hu; cases hv
    exact ⟨g1 (by simp) (by simp), by simp [Op.equalIn, run_und hd]⟩
  · rename_i q hd
    cases hu
    rcases q with _ | ⟨b, o⟩
    · cases hv; cases h; exact ⟨g1 (by simp) (by simp), by simp [Op.equalIn, run_und hd]⟩
    · obtain ⟨l, hl, rfl⟩ := hv; cases h; exact ⟨g1 (by simp) (by simp), by simp [Op.equalIn, run_und hd]⟩
  · rename_i q hd
    obtain ⟨b, o⟩ := q
    obtain ⟨l, hl, rfl⟩ := hu
    cases hv; cases h
    exact ⟨g1 (by simp) (by simp), by simp [Op.equalIn, run_und hd]⟩
  · rename_i e b1 o1 b2 o2 hd
    split at h
    · rename_i n hsz
      simp only [br_some_none, Nat.beq_eq, Option.some.injEq] at h
      obtain ⟨rfl, rfl⟩ := h
      obtain ⟨l, hl, rfl⟩ := hu
      obtain ⟨l', hl', rfl⟩ := hv
      rw [hl] at hl'; cases hl'
      refine ⟨g1 (by simp) (by simp), ?_⟩
      have e1 : ((⟨l.blk, l.off + o1, none⟩ : Addr) == ⟨l.blk, l.off + o2, none⟩) = Nat.beq o1 o2 := by
        rw [Bool.eq_iff_iff, Nat.beq_eq, beq_iff_eq]
        constructor
        · intro h; injection h with _ h; omega
        · intro h; rw [h]
      simp [Op.equalIn, run_und hd, run_size hsz, sameAddr, e1]
    · cases h
  · rename_i q n c x hd
    cases hu
    rcases q with _ | ⟨b, o⟩
    · cases hv; cases h; exact ⟨g1 (by simp) (by simp), by simp [Op.equalIn, run_und hd]⟩
    · obtain ⟨l, hl, rfl⟩ := hv; cases h; exact ⟨g1 (by simp) (by simp), by simp [Op.equalIn, run_und hd]⟩
  · rename_i hd
    cases hu; obtain ⟨l, p, q, hl, rfl, _⟩ := hv; cases h
    exact ⟨g1 (by simp) (by simp), by simp [Op.equalIn, run_und hd]⟩
  · rename_i q _ _ _ _ _ _ hd
    obtain ⟨b, o⟩ := q
    obtain ⟨l, hl, rfl⟩ := hu; cases hv; cases h
    exact ⟨g1 (by simp) (by simp), by simp [Op.equalIn, run_und hd]⟩
  · rename_i hd
    obtain ⟨l, p, q, hl, rfl, _⟩ := hu; cases hv; cases h
    exact ⟨g1 (by simp) (by simp), by simp [Op.equalIn, run_und hd]⟩
  · rename_i q hd
    cases hu
    rcases q with _ | m
    · cases hv; cases h; exact ⟨g1 (by simp) (by simp), by simp [Op.equalIn, run_und hd]⟩
    · obtain ⟨l, hl, rfl⟩ := hv; cases h; exact ⟨g1 (by simp) (by simp), by simp [Op.equalIn, run_und hd]⟩
  · rename_i hd
    obtain ⟨l, hl, rfl⟩ := hu; cases hv; cases h
    exact ⟨g1 (by simp) (by simp), by simp [Op.equalIn, run_und hd]⟩
  · rename_i hd; cases hu; cases hv; cases h
    exact ⟨g1 (by simp) (by simp), by simp [Op.equalIn, run_und hd]⟩
  · rename_i hd; cases hu; obtain ⟨_, _, rfl, _⟩ := hv; cases h
    exact ⟨g1 (by simp) (by simp), by simp [Op.equalIn, run_und hd]⟩
  · rename_i hd; obtain ⟨_, _, rfl, _⟩ := hu; cases hv; cases h
    exact ⟨g1 (by simp) (by simp), by simp [Op.equalIn, run_und hd]⟩
  · rename_i hd
    simp only [br_some_none, Bool.or_eq_true, isConst_eq, Option.some.injEq] at h
    obtain ⟨h, rfl⟩ := h
    cases hu; cases hv
    refine ⟨?_, by simp [Op.equalIn, run_und hd]⟩
    unfold eqGuard
    rcases h with ⟨c, rfl⟩ | ⟨c, rfl⟩ <;> rcases hop with rfl | rfl <;> simp
  · rename_i hd; cases hu; obtain ⟨_, rfl, _⟩ := hv; cases h
    exact ⟨g1 (by simp) (by simp), by simp [Op.equalIn, run_und hd]⟩
  · rename_i hd; cases hv; obtain ⟨_, rfl, _⟩ := hu; cases h
    exact ⟨g1 (by simp) (by simp), by simp [Op.equalIn, run_und hd]⟩
  · rename_i t1 v1 t2 v2 hd
    obtain ⟨x', rfl, hu2⟩ := hu
    obtain ⟨y', rfl, hv2⟩ := hv
    refine ⟨g1 (by simp) (by simp), ?_⟩
    by_cases ht : t1 = t2
    · subst ht
      simp only [Nat.beq_refl, br_true, ob_eq_some, br_some_none] at h
      obtain ⟨i, hi, hc, h⟩ := h
      have := eqFlat_run (w := w) h hu2 hv2
      simp [Op.equalIn, run_und hd, run_info hi, hc, this]
    · have : Nat.beq t1 t2 = false := by
        cases hb : Nat.beq t1 t2
        · rfl
        · exact absurd (Nat.eq_of_beq_eq_true hb) ht
      simp only [this, br_false, Option.some.injEq] at h
      subst h
      simp [Op.equalIn, run_und hd, ht]
  · rename_i hd
    simp only [br_none_some] at h
    obtain ⟨hg, h⟩ := h
    have h1 := eqFlat_run (w := w) h hu hv
    obtain ⟨xs', rfl, hu2⟩ := rel_agg hu
    obtain ⟨ys', rfl, hv2⟩ := rel_agg hv
    exact ⟨run_eqGuard_agg w op t x y _ _ hg, h1⟩
  · cases h

/-- What '==' and '!=' come to, where an equality is known. -/
theorem binOp_eq {t : TypeId} {u v : Value} {b : Bool} (h : (Op.equal t u v).run P w = .ok b w) (h1 : ∀ k n, u ≠ .int k n) (h2 : ∀ s, u ≠ .string s) (h3 : ∀ k n, u ≠ .float k n) (h4 : ∀ k n m, u ≠ .complex k n m) :
    (binOp .eql t u v).run P w = .ok (.bool b) w ∧ (binOp .neq t u v).run P w = .ok (.bool (!b)) w := by
  cases u <;> first
    | exact absurd rfl (h1 _ _)
    | exact absurd rfl (h2 _)
    | exact absurd rfl (h3 _ _)
    | exact absurd rfl (h4 _ _ _)
    | (constructor <;> (cases v <;> simp [binOp, h]))

section ops
variable {tm : TM0} {a : Act} {out : Out} {dst : Option Tmp} {type : TypeId} {pos : String} {after : Array Edge} {guard : Option (Nat × Bool)}

theorem onInts_some {f : IntKind → Int → IntKind → Int → Option AV} {x y v : AV} (h : onInts none f x y = some v) : ∃ k n k' m, x = .int k n ∧ y = .int k' m ∧ f k n k' m = some v := by
  unfold onInts at h
  split at h
  · split at h
    · exact ⟨_, _, _, _, rfl, rfl, h⟩
    · cases h
  · cases h
theorem onStrs_some {f : List UInt8 → List UInt8 → Option AV} {x y v : AV} (h : onStrs none f x y = some v) : ∃ a b, x = .str a ∧ y = .str b ∧ f a b = some v := by
  unfold onStrs at h
  split at h
  · split at h
    · exact ⟨_, _, rfl, rfl, h⟩
    · cases h
  · cases h

theorem guard_ints {op : BinOp} {t : TypeId} {x y : Operand} {k k' : IntKind} {n m : Int} : (eqGuard op t x y (.int k n) (.int k' m)).run P w = .ok () w := by
  cases op <;> rfl
theorem guard_strs {op : BinOp} {t : TypeId} {x y : Operand} {a b : ByteArray} : (eqGuard op t x y (.string a) (.string b)).run P w = .ok () w := by
  cases op <;> rfl

theorem shiftF_none {op : BinOp} (h : shiftF op = none) : op ≠ .shl ∧ op ≠ .shr := by cases op <;> simp [shiftF] at h ⊢

theorem eqA_kind {d : Nat} {t : TypeId} {cx cy : Bool} {x y : AV} {b : Bool} (h : eqA P d t cx cy x y = some b) : (∀ k n, x ≠ .int k n) ∧ (∀ s, x ≠ .str s) ∧ x ≠ .any := by
  refine ⟨?_, ?_, ?_⟩
  · rintro k n rfl; unfold eqA at h; split at h <;> simp_all
  · rintro s rfl; unfold eqA at h; split at h <;> simp_all
  · rintro rfl; unfold eqA at h; split at h <;> simp_all
theorem rel_kind {x : AV} {v : Value} (h : Rel ρ x v) (h1 : ∀ k n, x ≠ .int k n) (h2 : (∀ s, x ≠ .str s) ∧ x ≠ .any) : (∀ k n, v ≠ .int k n) ∧ (∀ s, v ≠ .string s) ∧ (∀ k n, v ≠ .float k n) ∧ (∀ k n m, v ≠ .complex k n m) := by
  cases x with
  | int k n => exact absurd rfl (h1 k n)
  | str s => exact absurd rfl (h2.1 s)
  | any => exact absurd rfl h2.2
  | ptr p => rcases p with _ | ⟨b, o⟩ <;> first | (obtain ⟨l, _, h⟩ := h; cases h; simp; done) | (cases h; simp)
  | slice p n c ex => rcases p with _ | ⟨b, o⟩ <;> first | (obtain ⟨l, _, h⟩ := h; cases h; simp; done) | (cases h; simp)
  | map p => cases p <;> first | (obtain ⟨l, _, h⟩ := h; cases h; simp; done) | (cases h; simp)
  | tail b o => obtain ⟨l, a, c, _, h, _⟩ := h; cases h; simp
  | fn f a c => obtain ⟨a', c', h, _⟩ := h; cases h; simp
  | yld l => obtain ⟨q, _, h⟩ := h; cases h; simp
  | iface t x => obtain ⟨y, h, _⟩ := h; cases h; simp
  | agg cs => obtain ⟨y, h, _⟩ := h; cases h; simp
  | tup cs => obtain ⟨y, h, _⟩ := h; cases h; simp
  | _ => cases h; simp

theorem s_binOp (h : At P ρ H w tm a W) {op : BinOp} {t t2 : TypeId} {x y : Operand} (hx : OkW P W x) (hy : OkW P W y) (he : (aopF P (.binOp op t x y t2)).val tm H at_ = some out) :
    OpRes at_ P ρ H w out ((execOp a.eval ⟨dst, .binOp op t x y t2, type, pos, after, guard⟩).run P w) := by
  simp only [aopF, b2, bx_eq, oBin, val_mk, opdB_val, vO_eq_some] at he
  obtain ⟨v, hv, rfl⟩ := he
  have rx := h.opd hx
  have ry := h.opd hy
  suffices hs : (eqGuard op t x y (a.eval x) (a.eval y)).run P w = .ok () w ∧ ∃ v', (binOp op t (a.eval x) (a.eval y)).run P w = .ok v' w ∧ Rel ρ v v' by
    obtain ⟨g, v', h1, h2⟩ := hs
    refine .pure h.real (v' := v') ?_ h2
    simp only [execOp, Sem.run_bind, g, Result.andThen_ok, h1, Sem.run_pure]
  unfold binA at hv
  split at hv
  · rename_i f hf
    simp only [val_mk] at hv
    obtain ⟨k, n, k', m, e1, e2, hv⟩ := onInts_some hv
    rw [e1] at rx; rw [e2] at ry
    rw [rel_int rx, rel_int ry]
    exact ⟨guard_ints, run_shift hf hv⟩
  · rename_i hsh
    rw [br_eq] at hv
    split at hv
    · cases hb : binI op with
      | none => simp [binI', hb] at hv
      | some f =>
        simp only [binI', hb, val_mk] at hv
        obtain ⟨k, n, k', m, e1, e2, hv⟩ := onInts_some hv
        simp only [br_some_none, kEq_iff] at hv
        obtain ⟨rfl, hv⟩ := hv
        rw [e1] at rx; rw [e2] at ry
        rw [rel_int rx, rel_int ry]
        exact ⟨guard_ints, run_binI hb hv (shiftF_none hsh)⟩
    · rw [br_eq] at hv
      split at hv
      · cases hb : binS op with
        | none => simp [binS', hb] at hv
        | some f =>
          simp only [binS', hb, val_mk] at hv
          obtain ⟨s, s', e1, e2, hv⟩ := onStrs_some hv
          rw [e1] at rx; rw [e2] at ry
          rw [rel_str rx, rel_str ry]
          exact ⟨guard_strs, run_binS hb hv⟩
      · cases hb : eqOp op with
        | none => simp [binE, hb] at hv
        | some f =>
          simp only [binE, hb, val_mk, ob_eq_some, Option.some.injEq] at hv
          obtain ⟨b, hv, rfl⟩ := hv
          obtain ⟨k1, k2⟩ := eqA_kind hv
          obtain ⟨k3, k4, k5, k6⟩ := rel_kind rx k1 k2
          cases op <;> simp only [eqOp, Option.some.injEq] at hb <;> (try (cases hb; done)) <;> subst hb
          · obtain ⟨g, hq⟩ := eqA_run hv rx ry (.inl rfl)
            exact ⟨g, _, (binOp_eq hq k3 k4 k5 k6).1, rfl⟩
          · obtain ⟨g, hq⟩ := eqA_run hv rx ry (.inr rfl)
            exact ⟨g, _, (binOp_eq hq k3 k4 k5 k6).2, rfl⟩

theorem s_unOp (h : At P ρ H w tm a W) {op : UnOp} {t : TypeId} {x : Operand} (hx : OkW P W x) (he : (aopF P (.unOp op t x)).val tm H at_ = some out) :
    OpRes at_ P ρ H w out ((execOp a.eval ⟨dst, .unOp op t x, type, pos, after, guard⟩).run P w) := by
  simp only [aopF, b1, bx_eq] at he
  cases hf : unA op with
  | none => simp [hf, oUn, dead] at he
  | some f =>
    simp only [hf, oUn, val_mk, opdB_val, vO_eq_some] at he
    obtain ⟨v, hv, rfl⟩ := he
    have rx := h.opd hx
    generalize opd tm x = u at hv rx
    cases op <;> simp only [unA, Option.some.injEq] at hf <;> (try (cases hf; done)) <;> subst hf <;> simp only at hv <;> split at hv <;> (try (cases hv; done)) <;> simp only [Option.some.injEq] at hv <;> subst hv
    · exact .pure h.real (v' := .int _ _) (by simp only [execOp, rel_int rx, Op.unary, Op.intArith]; rfl) (by simp only [Rel, wrapZ_eq]; rfl)
    · exact .pure h.real (v' := .int _ _) (by simp only [execOp, rel_int rx, Op.unary, Op.intBits]; rfl) rfl
    · exact .pure h.real (v' := .bool _) (by simp only [execOp, rel_bool rx, Op.unary]; rfl) rfl

end ops
end Go.Ab
