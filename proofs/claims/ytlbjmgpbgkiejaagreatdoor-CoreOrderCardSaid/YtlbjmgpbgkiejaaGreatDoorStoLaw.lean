/- Maps by integers: what is looked up, what is set. -/
import Derived.Test.YtlbjmgpbgkiejaaGreatDoorNums
namespace Go.Ab
noncomputable section
open Go.Proofs
set_option maxRecDepth 10000
variable {H H' : AH}

/-- A map's entries: key, value, when it came. -/
abbrev Me := List (Int × AV × Nat)
abbrev ents (M : Me) : List (AV × AV × Nat) := M.map fun e => (AV.int .i64 e.1, e.2.1, e.2.2)
def findI (k : Int) : Me → Nat → Option (Nat × AV)
  | [], _ => none
  | e :: M, i => if k = e.1 then some (i, e.2.1) else findI k M (i + 1)
theorem findA_ints (k : Int) : ∀ (M : Me) (i : Nat), findA (.int .i64 k) (ents M) i = some (findI k M i)
  | [], _ => rfl
  | e :: M, i => by
    show findA _ (((AV.int .i64 e.1, e.2.1, e.2.2) : AV × AV × Nat) :: ents M) i = _
    rw [findA_cons]
    have q : keyEq (.int .i64 k) (.int .i64 e.1) = some (decide (k = e.1)) := by
      show br (kEq .i64 .i64) (some (eqZ k e.1)) none = _
      rw [show kEq .i64 .i64 = true from rfl, br_true, eqZ_eq, beq_dec]
    show ob (keyEq (.int .i64 k) (.int .i64 e.1)) _ = _
    rw [q, ob_some, br_eq]
    unfold findI
    by_cases c : k = e.1
    · rw [decide_eq_true c, if_pos rfl, if_pos c]
    · rw [decide_eq_false c, if_neg (by simp), if_neg c]; exact findA_ints k M (i + 1)
/-- The value of a key; none: z. -/
def lookM (z : AV) (M : Me) (k : Int) : AV := match findI k M 0 with
  | none => z
  | some x => x.2
theorem w_look {kt et : TypeId} {kd : IntKind} {z : AV} (hk : PP.underlying kt = some (.int kd)) (hz : zeroA PP et = some z) {m clk : Nat} {M : Me} (h : H.get m = some (.mp (ents M) clk)) (k : Int) :
    w_lookup PP kt et false H (.map (some m)) (.int .i64 k) = some (.val (lookM z M k) H) := by
  simp only [w_lookup, oLookup, keyT, hk, hz, val_mk, br_true, entriesTo, mpTo, h, findA_ints, ob_some]
  unfold lookM
  cases findI k M 0 with
  | none => rfl
  | some x => rfl
def setM (M : Me) (k : Int) (v : AV) (clk : Nat) : Me := match findI k M 0 with
  | none => M ++ [(k, v, clk)]
  | some x => M.modify x.1 fun e => (k, v, e.2.2)
theorem w_set {kt et : TypeId} {kd : IntKind} (hk : PP.underlying kt = some (.int kd)) {m clk : Nat} {M : Me} (h : H.get m = some (.mp (ents M) clk)) (k : Int) (v : AV) :
    ∃ clk', w_mapUpdate PP kt et H (.map (some m)) (.int .i64 k) v = some (.skip (H.put m (some (.mp (ents (setM M k v clk)) clk')))) := by
  simp only [w_mapUpdate, oMapUpdate, keyT, hk, val_mk, br_true, mapPut, mpTo, h, findA_ints, ob_some, AH.putTo_eq]
  unfold setM
  cases findI k M 0 with
  | none => exact ⟨clk + 1, by simp only [sO, ob_some, List.map_append]; rfl⟩
  | some x =>
    refine ⟨clk, ?_⟩
    have e : (ents M).modify x.1 (fun e => (AV.int .i64 k, v, e.2.2)) = ents (M.modify x.1 fun e => (k, v, e.2.2)) := by
      apply List.ext_getElem?
      intro j
      simp only [List.getElem?_modify, List.getElem?_map]
      cases M[j]? with
      | none => rfl
      | some y => by_cases c : x.1 = j <;> simp [c]
    simp only [sO, ob_some, e]
/-- When each entry came: all unlike, before the clock. -/
def St (M : Me) (clk : Nat) : Prop := (∀ e ∈ M, e.2.2 < clk) ∧ (M.map fun e => e.2.2).Nodup
theorem st_nil (clk : Nat) : St [] clk := ⟨by simp, by simp⟩
theorem w_setS {kt et : TypeId} {kd : IntKind} (hk : PP.underlying kt = some (.int kd)) {m clk : Nat} {M : Me} (h : H.get m = some (.mp (ents M) clk)) (k : Int) (v : AV) :
    ∃ clk', w_mapUpdate PP kt et H (.map (some m)) (.int .i64 k) v = some (.skip (H.put m (some (.mp (ents (setM M k v clk)) clk')))) ∧ (St M clk → St (setM M k v clk) clk') := by
  simp only [w_mapUpdate, oMapUpdate, keyT, hk, val_mk, br_true, mapPut, mpTo, h, findA_ints, ob_some, AH.putTo_eq]
  unfold setM
  cases findI k M 0 with
  | none =>
    refine ⟨clk + 1, by simp only [sO, ob_some, List.map_append]; rfl, fun hs => ⟨fun e he => ?_, ?_⟩⟩
    · rcases List.mem_append.1 he with q | q
      · have := hs.1 e q; omega
      · rw [List.mem_singleton.1 q]; exact Nat.lt_succ_self _
    · rw [List.map_append]
      refine List.nodup_append.2 ⟨hs.2, by simp, fun a ha b hb => ?_⟩
      obtain ⟨e, he, rfl⟩ := List.mem_map.1 ha
      have := hs.1 e he
      simp at hb; omega
  | some x =>
    have e : (ents M).modify x.1 (fun e => (AV.int .i64 k, v, e.2.2)) = ents (M.modify x.1 fun e => (k, v, e.2.2)) := by
      apply List.ext_getElem?
      intro j
      simp only [List.getElem?_modify, List.getElem?_map]
      cases M[j]? with
      | none => rfl
      | some y => by_cases c : x.1 = j <;> simp [c]
    have eb : (M.modify x.1 fun e => (k, v, e.2.2)).map (fun e => e.2.2) = M.map fun e => e.2.2 := by
      apply List.ext_getElem?
      intro j
      simp only [List.getElem?_modify, List.getElem?_map]
      cases M[j]? with
      | none => rfl
      | some y => by_cases c : x.1 = j <;> simp [c]
    refine ⟨clk, by simp only [sO, ob_some, e], fun hs => ⟨fun y hy => ?_, by rw [eb]; exact hs.2⟩⟩
    have hm : y.2.2 ∈ (M.modify x.1 fun e => (k, v, e.2.2)).map fun e => e.2.2 := List.mem_map.2 ⟨y, hy, rfl⟩
    rw [eb] at hm
    obtain ⟨e', he', q⟩ := List.mem_map.1 hm
    rw [← q]; exact hs.1 e' he'
theorem w_len_map {t kt et : TypeId} (ht : PP.underlying t = some (.map kt et)) {m clk : Nat} {M : Me} (h : H.get m = some (.mp (ents M) clk)) : w_len PP t H (.map (some m)) = some (.val (.int .i64 M.length) H) := by
  simp only [w_len, lenF, ht, oArgs1v, val_mk, mpTo, h, ob_some, vO, List.length_map, Int.ofNat_eq_natCast]
theorem w_make_map : w_makeMap H none = some (.val (.map (some H.next)) (H.new (.mp (ents []) 0))) := by
  simp only [w_makeMap, oMap, val_mk, newTo_none_eq]; rfl
end
end Go.Ab
/- Maps by integers: plain. -/
namespace Go.Ab
set_option maxRecDepth 10000

abbrev keysM (M : Me) : List Int := M.map fun e => e.1
theorem findI_none {k : Int} : ∀ {M : Me} {i : Nat}, findI k M i = none ↔ k ∉ keysM M
  | [], _ => by simp [findI]
  | e :: M, i => by
    unfold findI
    by_cases c : k = e.1
    · rw [if_pos c]; simp [keysM, c]
    · rw [if_neg c, findI_none]; simp [keysM, c]
theorem findI_some {k : Int} : ∀ {M : Me} {i : Nat} {x : Nat × AV}, findI k M i = some x → ∃ j c, x.1 = i + j ∧ M[j]? = some (k, x.2, c)
  | [], _, _, h => by cases h
  | e :: M, i, x, h => by
    unfold findI at h
    by_cases c : k = e.1
    · rw [if_pos c] at h
      cases h
      exact ⟨0, e.2.2, rfl, by rw [c]; rfl⟩
    · rw [if_neg c] at h
      obtain ⟨j, t, e1, e2⟩ := findI_some h
      exact ⟨j + 1, t, by omega, e2⟩
theorem setM_keys_in {M : Me} {k : Int} (v : AV) (clk : Nat) (h : k ∈ keysM M) : keysM (setM M k v clk) = keysM M := by
  unfold setM
  cases q : findI k M 0 with
  | none => exact absurd h (findI_none.1 q)
  | some x =>
    obtain ⟨j, c, e1, e2⟩ := findI_some q
    apply List.ext_getElem?
    intro i
    simp only [List.getElem?_map, List.getElem?_modify]
    by_cases d : x.1 = i
    · have : j = i := by omega
      subst this
      simp [d, e2]
    · simp [d]
theorem setM_keys_out {M : Me} {k : Int} (v : AV) (clk : Nat) (h : k ∉ keysM M) : keysM (setM M k v clk) = keysM M ++ [k] := by
  unfold setM
  rw [findI_none.2 h]
  simp [keysM]
theorem setM_nodup {M : Me} (k : Int) (v : AV) (clk : Nat) (h : (keysM M).Nodup) : (keysM (setM M k v clk)).Nodup := by
  by_cases c : k ∈ keysM M
  · rw [setM_keys_in v clk c]; exact h
  · rw [setM_keys_out v clk c]
    exact List.nodup_append.2 ⟨h, by simp, fun a ha b hb e => c (by rw [List.mem_singleton.1 hb] at e; rw [← e]; exact ha)⟩
/-- In a map of which no key lies there twice: a key's value. -/
theorem lookM_of {M : Me} (h : (keysM M).Nodup) {z : AV} {e : Int × AV × Nat} (he : e ∈ M) : lookM z M e.1 = e.2.1 := by
  unfold lookM
  cases q : findI e.1 M 0 with
  | none => exact absurd (List.mem_map_of_mem (f := fun e : Int × AV × Nat => e.1) he) (findI_none.1 q)
  | some x =>
    obtain ⟨j, c, _, e2⟩ := findI_some q
    obtain ⟨i, hi⟩ := List.getElem?_of_mem he
    have k1 : (keysM M)[j]? = some e.1 := by rw [List.getElem?_map, e2]; rfl
    have k2 : (keysM M)[i]? = some e.1 := by rw [List.getElem?_map, hi]; rfl
    have hj : j < (keysM M).length := (List.getElem?_eq_some_iff.1 k1).1
    have : j = i := (List.getElem?_inj hj h).1 (k1.trans k2.symm)
    subst this
    have e3 := Option.some.inj (hi.symm.trans e2)
    show x.2 = _
    rw [e3]
theorem lookM_out {M : Me} {k : Int} {z : AV} (h : k ∉ keysM M) : lookM z M k = z := by
  unfold lookM; rw [findI_none.2 h]
theorem lookM_same (M : Me) (k : Int) (v z : AV) (clk : Nat) (h : (keysM M).Nodup) : lookM z (setM M k v clk) k = v := by
  have hn := setM_nodup k v clk h
  have : ∃ c, (k, v, c) ∈ setM M k v clk := by
    unfold setM
    cases q : findI k M 0 with
    | none => exact ⟨clk, by simp⟩
    | some x =>
      obtain ⟨j, c, e1, e2⟩ := findI_some q
      refine ⟨c, List.mem_of_getElem? (i := j) ?_⟩
      have : x.1 = j := by omega
      simp [this, e2]
  obtain ⟨c, hc⟩ := this
  exact lookM_of hn hc
theorem lookM_other (M : Me) {k k' : Int} (v z : AV) (clk : Nat) (h : (keysM M).Nodup) (hk : k' ≠ k) : lookM z (setM M k v clk) k' = lookM z M k' := by
  have hn := setM_nodup k v clk h
  have back : ∀ e ∈ M, e.1 ≠ k → e ∈ setM M k v clk := by
    intro e he ne
    unfold setM
    cases q : findI k M 0 with
    | none => exact List.mem_append_left _ he
    | some x =>
      obtain ⟨j, c, e1, e2⟩ := findI_some q
      obtain ⟨i, hi⟩ := List.getElem?_of_mem he
      refine List.mem_of_getElem? (i := i) ?_
      have : x.1 ≠ i := by
        intro q
        have : j = i := by omega
        subst this
        rw [hi] at e2; cases e2; exact ne rfl
      simp [this, hi]
  by_cases c : k' ∈ keysM M
  · obtain ⟨e, he, rfl⟩ := List.mem_map.1 c
    rw [lookM_of h he, lookM_of hn (back e he hk)]
  · rw [lookM_out c, lookM_out]
    by_cases d : k ∈ keysM M
    · rw [setM_keys_in v clk d]; exact c
    · rw [setM_keys_out v clk d]; simp; exact ⟨by simpa using c, hk⟩
end Go.Ab
/- What is kept by ids, as a row: plain. -/
namespace Go.Ab
set_option maxRecDepth 10000

/-- What an id has. -/
structure Itm where
  id : Int
  v : AV
  b : Nat
  V : List Int
  pay : List UInt8
  seq : Int
  gone : Bool
abbrev rowI (i : Itm) : List AV := [.int .i64 i.id, i.v, .str i.pay, .int .i64 i.seq, .bool i.gone]
abbrev itmA (i : Itm) : AV := .agg (rowI i)
abbrev nilV : AV := .slice none 0 0 true
def Itm.zero : Itm := ⟨0, nilV, 0, [], [], 0, false⟩
/-- All, each with when it came. -/
abbrev Ls := List (Itm × Nat)
abbrev idsL (L : Ls) : List Int := L.map fun p => p.1.id
def meL (L : Ls) : Me := L.map fun p => (p.1.id, itmA p.1, p.2)
def lookL (k : Int) : Ls → Option Itm
  | [] => none
  | p :: L => if k = p.1.id then some p.1 else lookL k L
theorem keys_meL (L : Ls) : keysM (meL L) = idsL L := by simp [meL, keysM]
theorem find_meL (k : Int) : ∀ (L : Ls) (n : Nat), (findI k (meL L) n).map (fun x => x.2) = (lookL k L).map itmA
  | [], _ => rfl
  | p :: L, n => by
    show (findI k ((p.1.id, itmA p.1, p.2) :: meL L) n).map _ = _
    unfold findI lookL
    by_cases c : k = p.1.id
    · rw [if_pos c, if_pos c]; rfl
    · rw [if_neg c, if_neg c]; exact find_meL k L (n + 1)
theorem look_none {k : Int} {L : Ls} (h : lookL k L = none) (n : Nat) : findI k (meL L) n = none := by
  have := find_meL k L n
  rw [h] at this
  cases r : findI k (meL L) n with
  | none => rfl
  | some x => rw [r] at this; cases this
theorem look_some {k : Int} {L : Ls} {i : Itm} (h : lookL k L = some i) (n : Nat) : ∃ x, findI k (meL L) n = some x ∧ x.2 = itmA i := by
  have := find_meL k L n
  rw [h] at this
  cases r : findI k (meL L) n with
  | none => rw [r] at this; cases this
  | some x => rw [r] at this; exact ⟨x, rfl, Option.some.inj this⟩
theorem look_in {k : Int} : ∀ {L : Ls} {i : Itm}, lookL k L = some i → ∃ p ∈ L, p.1 = i ∧ i.id = k
  | p :: L, i, h => by
    unfold lookL at h
    by_cases c : k = p.1.id
    · rw [if_pos c] at h; cases h
      exact ⟨p, by simp, rfl, c.symm⟩
    · rw [if_neg c] at h
      obtain ⟨q, hq, e⟩ := look_in h
      exact ⟨q, by simp [hq], e⟩
theorem look_out {k : Int} : ∀ {L : Ls}, lookL k L = none ↔ k ∉ idsL L
  | [] => by simp [lookL]
  | p :: L => by
    unfold lookL
    by_cases c : k = p.1.id
    · rw [if_pos c]; simp [c]
    · rw [if_neg c, look_out]; simp [c]
theorem look_mem {L : Ls} (hn : (idsL L).Nodup) {p : Itm × Nat} (hp : p ∈ L) : lookL p.1.id L = some p.1 := by
  induction L with
  | nil => cases hp
  | cons q L ih =>
    unfold lookL
    have hn' := List.nodup_cons.1 hn
    rcases List.mem_cons.1 hp with rfl | h
    · rw [if_pos rfl]
    · rw [if_neg (fun e => hn'.1 (List.mem_map.2 ⟨p, h, e⟩)), ih hn'.2 h]
/-- One is put. -/
def putS (L : Ls) (i : Itm) (clk : Nat) : Ls := if i.id ∈ idsL L then L.map fun p => if p.1.id = i.id then (i, p.2) else p else L ++ [(i, clk)]
theorem set_meL {L : Ls} (hn : (idsL L).Nodup) (i : Itm) (clk : Nat) : setM (meL L) i.id (itmA i) clk = meL (putS L i clk) := by
  unfold setM putS
  by_cases c : i.id ∈ idsL L
  · rw [if_pos c]
    cases r : findI i.id (meL L) 0 with
    | none => exact absurd (by rw [keys_meL]; exact c) (findI_none.1 r)
    | some x =>
      obtain ⟨j, t, e1, e2⟩ := findI_some r
      rw [Nat.zero_add] at e1
      subst e1
      apply List.ext_getElem?
      intro k
      have hj : (idsL L)[x.1]? = some i.id := by
        have := congrArg (Option.map fun e : Int × AV × Nat => e.1) e2
        simpa [meL] using this
      simp only [List.getElem?_modify, meL, List.getElem?_map]
      cases hk : L[k]? with
      | none => rfl
      | some p =>
        have hk' : (idsL L)[k]? = some p.1.id := by simp [hk]
        by_cases ck : x.1 = k
        · subst ck
          have : p.1.id = i.id := by rw [hj] at hk'; exact (Option.some.inj hk').symm
          simp [this]
        · have : p.1.id ≠ i.id := fun q => ck (by
            rw [q] at hk'
            have l1 := (List.getElem?_eq_some_iff.1 hj).1
            have l2 := (List.getElem?_eq_some_iff.1 hk').1
            refine (List.getElem_inj (h₀ := l1) (h₁ := l2) hn).1 ?_
            rw [(List.getElem?_eq_some_iff.1 hj).2, (List.getElem?_eq_some_iff.1 hk').2])
          simp [ck, this]
  · rw [if_neg c]
    have : findI i.id (meL L) 0 = none := findI_none.2 (by rw [keys_meL]; exact c)
    rw [this]
    simp [meL]
theorem ids_putS (L : Ls) (i : Itm) (clk : Nat) : idsL (putS L i clk) = if i.id ∈ idsL L then idsL L else idsL L ++ [i.id] := by
  unfold putS
  by_cases c : i.id ∈ idsL L
  · rw [if_pos c, if_pos c]
    simp only [idsL, List.map_map]
    refine List.map_congr_left fun p _ => ?_
    show (if p.1.id = i.id then (i, p.2) else p).1.id = p.1.id
    by_cases q : p.1.id = i.id
    · rw [if_pos q]; exact q.symm
    · rw [if_neg q]
  · rw [if_neg c, if_neg c]; simp [idsL]
theorem nd_putS {L : Ls} (hn : (idsL L).Nodup) (i : Itm) (clk : Nat) : (idsL (putS L i clk)).Nodup := by
  rw [ids_putS]
  by_cases c : i.id ∈ idsL L
  · rw [if_pos c]; exact hn
  · rw [if_neg c]
    exact List.nodup_append.2 ⟨hn, by simp, fun a ha b hb => by rw [List.mem_singleton.1 hb]; exact fun q => c (q ▸ ha)⟩
theorem mem_putS {L : Ls} {i : Itm} {clk : Nat} {p : Itm × Nat} (h : p ∈ putS L i clk) : p ∈ L ∨ p.1 = i := by
  unfold putS at h
  by_cases c : i.id ∈ idsL L
  · rw [if_pos c] at h
    obtain ⟨q, hq, rfl⟩ := List.mem_map.1 h
    by_cases d : q.1.id = i.id
    · rw [if_pos d]; exact .inr rfl
    · rw [if_neg d]; exact .inl hq
  · rw [if_neg c] at h
    rcases List.mem_append.1 h with q | q
    · exact .inl q
    · rw [List.mem_singleton.1 q]; exact .inr rfl
end Go.Ab
