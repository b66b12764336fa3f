/- Each operation, evaluated, is what the operation does (sixth part: maps). -/
import Derived.Test.YtoafnnphjbdedaaGreatDoorAbJ
namespace Go.Ab
variable {P : Program} {ρ : Env} {H : AH} {w : World} {at_ : Option Nat} {W : Tmp → Prop}

/-! Keys. -/
/-- A key, and the kind of its type. -/
def KeyOk (d : TypeDesc) (k : AV) : Prop := (∃ i q n, d = .int i ∧ k = .int q n) ∨ (d = .string ∧ ∃ s, k = .str s) ∨ (d = .bool ∧ ∃ b, k = .bool b)

theorem keyT_some {t : TypeId} {f : AV → Bool} (h : keyT P t = some f) {k : AV} (hk : f k = true) : ∃ d, P.underlying t = some d ∧ KeyOk d k := by
  unfold keyT at h
  split at h
  · cases h
    refine ⟨_, by assumption, ?_⟩
    simp only at hk
    split at hk
    · exact .inl ⟨_, _, _, rfl, rfl⟩
    · cases hk
  · cases h
    refine ⟨_, by assumption, ?_⟩
    simp only at hk
    split at hk
    · exact .inr (.inl ⟨rfl, _, rfl⟩)
    · cases hk
  · cases h
    refine ⟨_, by assumption, ?_⟩
    simp only at hk
    split at hk
    · exact .inr (.inr ⟨rfl, _, rfl⟩)
    · cases hk
  · cases h

theorem key_same {d : TypeDesc} {k x : AV} {q : Bool} (hd : KeyOk d k) (h : keyEq k x = some q) {k' x' : Value} (hk : Rel ρ k k') (hx : Rel ρ x x') :
    Instr.sameNow d k' x' = some q ∧ (q = true → ∀ n, Instr.sameBits n x' k' = true) := by
  rcases hd with ⟨i, j, n, rfl, rfl⟩ | ⟨rfl, s, rfl⟩ | ⟨rfl, b, rfl⟩
  · simp only [keyEq] at h
    split at h
    · rename_i k2 m
      rw [br_some_none, kEq_iff] at h
      obtain ⟨rfl, h⟩ := h
      cases h
      rw [rel_int hk, rel_int hx]
      refine ⟨by simp [Instr.sameNow, eqZ_eq], fun hq n => ?_⟩
      have : n = n := rfl
      rw [eqZ_eq] at hq
      cases n <;> simp_all [Instr.sameBits]
    · cases h
  · simp only [keyEq] at h
    split at h
    · rename_i s2
      cases h
      rw [rel_str hk, rel_str hx]
      have e : ((⟨s.toArray⟩ : ByteArray) == ⟨s2.toArray⟩) = (s == s2) := by
        have : ((⟨s.toArray⟩ : ByteArray) == ⟨s2.toArray⟩) = (s.toArray == s2.toArray) := rfl
        rw [this]; simp
      refine ⟨by simp only [Instr.sameNow, strEq_eq, e], fun hq n => ?_⟩
      rw [strEq_eq] at hq
      have : s = s2 := by simpa using hq
      subst this
      have e' : ((⟨s.toArray⟩ : ByteArray) == ⟨s.toArray⟩) = true := by rw [e]; simp
      cases n <;> simp only [Instr.sameBits, e']
    · cases h
  · simp only [keyEq] at h
    split at h
    · rename_i b2
      cases h
      rw [rel_bool hk, rel_bool hx]
      refine ⟨by simp [Instr.sameNow], fun hq n => ?_⟩
      have : b = b2 := by simpa using hq
      subst this
      cases n <;> simp [Instr.sameBits]
    · cases h

theorem findA_cons (k : AV) (e : AV × AV × Nat) (es : List (AV × AV × Nat)) (i : Nat) : findA k (e :: es) i = ob (keyEq k e.1) fun q => br q (some (some (i, e.2.1))) (findA k es (Nat.succ i)) := rfl
theorem findA_nil (k : AV) (i : Nat) : findA k [] i = some none := rfl

theorem find_run {d : TypeDesc} {k : AV} {k' : Value} (hd : KeyOk d k) (hk : Rel ρ k k') : ∀ (es : List (AV × AV × Nat)) (es' : List MapEntry) (i : Nat) (r : Option (Nat × AV)), RelEs ρ es es' → findA k es i = some r →
    (r = none ∧ Instr.findNow d k' es' i = some none) ∨ ∃ j v v', r = some (i + j, v) ∧ Instr.findNow d k' es' i = some (some (i + j, v')) ∧ Rel ρ v v' ∧ ∃ e e' : _, es[j]? = some e ∧ es'[j]? = some e' ∧ (∀ n, Instr.sameBits n e'.key k' = true)
  | [], es', i, r, hr, hf => by
    cases hr
    rw [findA_nil] at hf
    cases hf
    exact .inl ⟨rfl, rfl⟩
  | e :: es, es', i, r, hr, hf => by
    obtain ⟨y, ys, rfl, h1, h2⟩ := hr
    rw [findA_cons, ob_eq_some] at hf
    obtain ⟨q, hq, hf⟩ := hf
    have hs := key_same hd hq hk h1.1
    cases q with
    | true =>
      rw [br_true] at hf
      cases hf
      exact .inr ⟨0, _, y.val, rfl, by simp [Instr.findNow, hs.1], h1.2.1, e, y, rfl, rfl, hs.2 rfl⟩
    | false =>
      rw [br_false] at hf
      rcases find_run hd hk es ys (i + 1) r h2 hf with ⟨a, b⟩ | ⟨j, v, v', a, b, c, e1, e2, g1, g2, g3⟩
      · exact .inl ⟨a, by simp [Instr.findNow, hs.1, b]⟩
      · exact .inr ⟨j + 1, v, v', by rw [a]; congr 2; omega, by simp only [Instr.findNow, hs.1, b]; congr 3; omega, c, e1, e2, by simpa using g1, by simpa using g2, g3⟩

theorem check_run (empty : Bool) (n : Nat) {t : TypeId} {d : TypeDesc} {k : AV} {k' : Value} (hu : P.underlying t = some d) (hd : KeyOk d k) (hk : Rel ρ k k') : (Instr.checkKey empty (n + 1) t k').run P w = .ok () w := by
  rcases hd with ⟨i, j, n, rfl, rfl⟩ | ⟨rfl, s, rfl⟩ | ⟨rfl, b, rfl⟩
  · simp [Instr.checkKey, run_und hu, rel_int hk]
  · simp [Instr.checkKey, run_und hu, rel_str hk]
  · simp [Instr.checkKey, run_und hu, rel_bool hk]
theorem key_run {t : TypeId} {d : TypeDesc} {k' : Value} {es : List MapEntry} {r : Option (Nat × Value)} (hu : P.underlying t = some d) (h : Instr.findNow d k' es 0 = some r) : (Instr.findKey t k' es).run P w = .ok r w := by
  simp [Instr.findKey, run_und hu, h]

theorem RelEs.length : ∀ {xs : List (AV × AV × Nat)} {es : List MapEntry}, RelEs ρ xs es → xs.length = es.length
  | [], _, e => by cases e; rfl
  | _ :: _, _, ⟨y, ys, e, _, h⟩ => by subst e; simp [RelEs.length h]
theorem RelEs.append : ∀ {xs ys : List (AV × AV × Nat)} {es fs : List MapEntry}, RelEs ρ xs es → RelEs ρ ys fs → RelEs ρ (xs ++ ys) (es ++ fs)
  | [], _, _, _, e, h => by cases e; exact h
  | _ :: _, _, _, _, ⟨y, zs, e, h1, h2⟩, h => by subst e; exact ⟨y, _, rfl, h1, RelEs.append h2 h⟩
theorem RelEs.modify {f : AV × AV × Nat → AV × AV × Nat} {g : MapEntry → MapEntry} (hf : ∀ x e, RelE ρ x e → RelE ρ (f x) (g e)) : ∀ {xs : List (AV × AV × Nat)} {es : List MapEntry} (i : Nat), RelEs ρ xs es → RelEs ρ (xs.modify i f) (es.modify i g)
  | [], _, i, e => by cases e; simp [RelEs]
  | x :: xs, _, 0, ⟨y, ys, e, h1, h2⟩ => by subst e; simp only [List.modify_zero_cons]; exact ⟨_, _, rfl, hf _ _ h1, h2⟩
  | x :: xs, _, i + 1, ⟨y, ys, e, h1, h2⟩ => by subst e; simp only [List.modify_succ_cons]; exact ⟨_, _, rfl, h1, RelEs.modify hf i h2⟩
theorem RelEs.erase : ∀ {xs : List (AV × AV × Nat)} {es : List MapEntry} (i : Nat), RelEs ρ xs es → RelEs ρ (xs.eraseIdx i) (es.eraseIdx i)
  | [], _, i, e => by cases e; simp [RelEs]
  | x :: xs, _, 0, ⟨y, ys, e, h1, h2⟩ => by subst e; simpa using h2
  | x :: xs, _, i + 1, ⟨y, ys, e, h1, h2⟩ => by subst e; simp only [List.eraseIdx_cons_succ]; exact ⟨_, _, rfl, h1, RelEs.erase i h2⟩

theorem mapT_some {t k e : TypeId} (h : mapT P t = some (k, e)) : P.underlying t = some (.map k e) := by
  unfold mapT at h
  split at h
  · cases h; assumption
  · cases h

theorem run_getMap {r : Nat} {es : Array MapEntry} {clk : Nat} (h : w.heap[r]? = some (.map es clk)) : (getObj r).run P w = .ok (.map es clk) w := by simp [getObj, Sem.run, h]
theorem rel_map {b : Nat} {v : Value} (h : Rel ρ (.map (some b)) v) : ∃ l, ρ b = some l ∧ v = .map (some l.blk) := h
theorem rel_nilMap {v : Value} (h : Rel ρ (.map none) v) : v = .map none := h

/-- A map that is written over. -/
theorem Real.setMap (h : Real P ρ H w) {b : Nat} {l : Loc} {es0 : List (AV × AV × Nat)} {c0 : Nat} (hb : H.get b = some (.mp es0 c0)) (hl : ρ b = some l) {es : List (AV × AV × Nat)} {es' : Array MapEntry} {clk : Nat} (hr : RelEs ρ es es'.toList) :
    ∃ w', (setObj l.blk (.map es' clk)).run P w = .ok () w' ∧ Good at_ P ρ H w ρ (H.put b (some (.mp es clk))) w' := by
  obtain ⟨l', es0', h1, h2, -⟩ := h.lies b _ hb
  rw [hl] at h1; cases h1
  have hlt : l.blk < w.heap.size := (Array.getElem?_eq_some_iff.1 h2).1
  refine ⟨{ w with heap := w.heap.setIfInBounds l.blk (.map es' clk) }, by simp [setObj, Sem.run, h2], ?_⟩
  refine h.change (by rw [hb]; simp) hl (by simp) (fun k hk => ?_) ⟨l, es'.toList, hl, ?_, hr⟩ rfl rfl rfl
  · simp [Array.getElem?_setIfInBounds_ne (Ne.symm hk)]
  · simp [hlt]

section ops
variable {tm : TM0} {a : Act} {out : Out} {dst : Option Tmp} {type : TypeId} {pos : String} {after : Array Edge} {guard : Option (Nat × Bool)}

theorem entries_run (h : Real P ρ H w) {m : AV} {m' : Value} (hm : Rel ρ m m') {f : List (AV × AV × Nat) → Option AV} {v : AV} (he : entriesTo H f m = some v) :
    ∃ es es', f es = some v ∧ RelEs ρ es es' ∧ ((m' = .map none ∧ es' = []) ∨ ∃ r clk, m' = .map (some r) ∧ w.heap[r]? = some (.map es'.toArray clk)) := by
  unfold entriesTo at he
  split at he
  · exact ⟨[], [], he, rfl, .inl ⟨hm, rfl⟩⟩
  · rename_i b
    obtain ⟨es, clk, h1, h2⟩ := mpTo_eq_some.1 he
    obtain ⟨l, es', g1, g2, g3⟩ := h.lies b _ h1
    obtain ⟨l', g4, g5⟩ := rel_map hm
    rw [g1] at g4; cases g4
    exact ⟨es, es', h2, g3, .inr ⟨_, clk, g5, g2⟩⟩
  · cases he

theorem s_lookup (h : At P ρ H w tm a W) {t : TypeId} {m k : Operand} {ok : Bool} (hm : OkW P W m) (hk : OkW P W k) (he : (aopF P (.lookup t m k ok)).val tm H at_ = some out) :
    OpRes at_ P ρ H w out ((execOp a.eval ⟨dst, .lookup t m k ok, type, pos, after, guard⟩).run P w) := by
  simp only [aopF, b2, bx_eq] at he
  have rm := h.opd hm
  have rk := h.opd hk
  cases ht : mapT P t with
  | none => simp [ht, oLookup, dead] at he
  | some p =>
    obtain ⟨kt, et⟩ := p
    have hu := mapT_some ht
    simp only [ht, oLookup] at he
    split at he
    · rename_i kok z hkt hz
      simp only [val_mk, opdB_val, br_some_none, vO_eq_some] at he
      obtain ⟨hkok, v, hv, rfl⟩ := he
      obtain ⟨d, hd, hko⟩ := keyT_some hkt hkok
      obtain ⟨es, es', h1, h2, h3⟩ := entries_run h.real rm hv
      simp only [ob_eq_some, Option.some.injEq] at h1
      obtain ⟨r, hf, hv⟩ := h1
      obtain ⟨zv, hz1, hz2⟩ := run_zero (ρ := ρ) (w := w) hz
      have ck : ∀ e, (Instr.checkKey e 10000 kt (a.eval k)).run P w = .ok () w := fun e => check_run e 9999 hd hko rk
      rcases find_run hko rk es es' 0 r h2 hf with ⟨rfl, hn⟩ | ⟨j, v1, v1', rfl, hn, hr, -⟩
      · refine .pure h.real (v' := if ok then .tuple #[zv, .bool false] else zv) ?_ ?_
        · rcases h3 with ⟨e1, rfl⟩ | ⟨rr, clk, e1, e2⟩
          · simp [execOp, Instr.lookup, run_und hu, e1, ck, key_run hd hn, hz1]
          · simp [execOp, Instr.lookup, run_und hu, e1, run_getMap e2, ck, key_run hd hn, hz1]
        · subst hv
          cases ok
          · exact hz2
          · exact ⟨[zv, .bool false], rfl, .cons hz2 (.cons rfl rfl)⟩
      · refine .pure h.real (v' := if ok then .tuple #[v1', .bool true] else v1') ?_ ?_
        · rcases h3 with ⟨e1, rfl⟩ | ⟨rr, clk, e1, e2⟩
          · simp [execOp, Instr.lookup, run_und hu, e1, ck, key_run hd hn]
          · simp [execOp, Instr.lookup, run_und hu, e1, run_getMap e2, ck, key_run hd hn]
        · subst hv
          cases ok
          · exact hr
          · exact ⟨[v1', .bool true], rfl, .cons hr (.cons rfl rfl)⟩
    · simp [dead] at he

theorem mapPut_run (h : Real P ρ H w) {b : Nat} {l : Loc} {k v : AV} {k' v' : Value} {H' : AH} (he : mapPut H b k v = some H') (hl : ρ b = some l) (hk : Rel ρ k k') (hv : Rel ρ v v') {t kt et : TypeId} {d : TypeDesc}
    (hu : P.underlying t = some (.map kt et)) (hd : P.underlying kt = some d) (hko : KeyOk d k) : ∃ w', (Instr.mapUpdate t (.map (some l.blk)) k' v').run P w = .ok () w' ∧ Good at_ P ρ H w ρ H' w' := by
  unfold mapPut at he
  obtain ⟨es, clk, h1, h2⟩ := mpTo_eq_some.1 he
  obtain ⟨l', es', g1, g2, g3⟩ := h.lies b _ h1
  rw [hl] at g1; cases g1
  rw [ob_eq_some] at h2
  obtain ⟨r, hf, h2⟩ := h2
  have ck : ∀ e, (Instr.checkKey e 10000 kt k').run P w = .ok () w := fun e => check_run e 9999 hd hko hk
  rcases find_run hko hk es es' 0 r g3 hf with ⟨rfl, hn⟩ | ⟨j, v1, v1', rfl, hn, hr, e, e', q1, q2, q3⟩
  · simp only [AH.putTo_eq, Option.some.injEq] at h2
    subst h2
    have hre : RelEs ρ (es ++ [(k, v, clk)]) (es'.toArray.push { key := k', val := v', born := clk }).toList := by
      simpa using g3.append (ys := [(k, v, clk)]) (fs := [{ key := k', val := v', born := clk }]) ⟨_, _, rfl, ⟨hk, hv, rfl⟩, rfl⟩
    obtain ⟨w', s1, s2⟩ := h.setMap h1 hl (clk := clk + 1) hre
    exact ⟨w', by simpa [Instr.mapUpdate, run_und hu, run_getMap g2, ck, key_run hd hn] using s1, s2⟩
  · simp only [AH.putTo_eq, Option.some.injEq] at h2
    subst h2
    have hre : RelEs ρ (es.modify (0 + j) fun e => (k, v, e.2.2)) (es'.toArray.modify (0 + j) fun e => { e with key := k', val := v' }).toList := by
      rw [Array.toList_modify]
      exact g3.modify (f := fun e => (k, v, e.2.2)) (g := fun e => { e with key := k', val := v' }) (fun x e hx => ⟨hk, hv, hx.2.2⟩) _
    obtain ⟨w', s1, s2⟩ := h.setMap h1 hl (clk := clk) hre
    refine ⟨w', ?_, s2⟩
    have hst : (Instr.keyThatStays (((es'.toArray[0 + j]?).map (·.key)).getD k') k').run P w = .ok k' w := by
      have := q3 10000
      simp only [Instr.keyThatStays, Nat.zero_add, List.getElem?_toArray, q2, Option.map_some, Option.getD_some, this, if_true]
      rfl
    simp [Instr.mapUpdate, run_und hu, run_getMap g2, ck, key_run hd hn]
    simp at hst s1
    simp [hst, s1]

theorem s_mapUpdate (h : At P ρ H w tm a W) {op : Op} {t : TypeId} {m k x : Operand} (hop : op = .mapUpdate t m k x ∨ op = .insert t m k x) (hm : OkW P W m) (hk : OkW P W k) (hx : OkW P W x) (he : (aopF P op).val tm H at_ = some out) :
    OpRes at_ P ρ H w out ((execOp a.eval ⟨dst, op, type, pos, after, guard⟩).run P w) := by
  have he' : (oMapUpdate P (opdB m).val (opdB k).val (opdB x).val (mapT P t)).val tm H at_ = some out := by
    rcases hop with rfl | rfl <;> simpa only [aopF, b3, bx_eq] using he
  clear he
  have rm := h.opd hm
  have rk := h.opd hk
  have rx := h.opd hx
  cases ht : mapT P t with
  | none => simp [ht, oMapUpdate, dead] at he'
  | some p =>
    obtain ⟨kt, et⟩ := p
    have hu := mapT_some ht
    simp only [ht, oMapUpdate] at he'
    split at he'
    · rename_i kok hkt
      simp only [val_mk, opdB_val, br_some_none] at he'
      obtain ⟨hkok, he'⟩ := he'
      obtain ⟨d, hd, hko⟩ := keyT_some hkt hkok
      split at he'
      · rename_i b e1
        rw [sO_eq_some] at he'
        obtain ⟨H', hp, rfl⟩ := he'
        rw [e1] at rm
        obtain ⟨l, hl, hm'⟩ := rel_map rm
        obtain ⟨w', s1, s2⟩ := mapPut_run h.real hp hl rk rx hu hd hko
        refine ⟨ρ, w', ?_, s2⟩
        rcases hop with rfl | rfl <;> simp [execOp, hm', s1]
      · cases he'
    · simp [dead] at he'

end ops
end Go.Ab
