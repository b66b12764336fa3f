/- Maps by integers: what is looked up, what is set. -/
import Derived.Test.YtbahknfffhijlaaGreatDoorNums
namespace Go.Ab
noncomputable section
open Go.Proofs
set_option maxRecDepth 10000
variable {H H' : AH}

/-- A map's entries: key, value, when it came. -/
abbrev Me := List (Int × AV × Nat)
abbrev ents (M : Me) : List (AV × AV × Nat) := M.map fun e => (AV.int .i64 e.1, e.2.1, e.2.2)
def findI (k : Int) : Me → Nat → Option (Nat × AV)
  | [], _ => none
  | e :: M, i => if k = e.1 then some (i, e.2.1) else findI k M (i + 1)
theorem findA_ints (k : Int) : ∀ (M : Me) (i : Nat), findA (.int .i64 k) (ents M) i = some (findI k M i)
  | [], _ => rfl
  | e :: M, i => by
    show findA _ (((AV.int .i64 e.1, e.2.1, e.2.2) : AV × AV × Nat) :: ents M) i = _
    rw [findA_cons]
    have q : keyEq (.int .i64 k) (.int .i64 e.1) = some (decide (k = e.1)) := by
      show br (kEq .i64 .i64) (some (eqZ k e.1)) none = _
      rw [show kEq .i64 .i64 = true from rfl, br_true, eqZ_eq, beq_dec]
    show ob (keyEq (.int .i64 k) (.int .i64 e.1)) _ = _
    rw [q, ob_some, br_eq]
    unfold findI
    by_cases c : k = e.1
    · rw [decide_eq_true c, if_pos rfl, if_pos c]
    · rw [decide_eq_false c, if_neg (by simp), if_neg c]; exact findA_ints k M (i + 1)
/-- The value of a key; none: z. -/
def lookM (z : AV) (M : Me) (k : Int) : AV := match findI k M 0 with
  | none => z
  | some x => x.2
theorem w_look {kt et : TypeId} {kd : IntKind} {z : AV} (hk : PP.underlying kt = some (.int kd)) (hz : zeroA PP et = some z) {m clk : Nat} {M : Me} (h : H.get m = some (.mp (ents M) clk)) (k : Int) :
    w_lookup PP kt et false H (.map (some m)) (.int .i64 k) = some (.val (lookM z M k) H) := by
  simp only [w_lookup, oLookup, keyT, hk, hz, val_mk, br_true, entriesTo, mpTo, h, findA_ints, ob_some]
  unfold lookM
  cases findI k M 0 with
  | none => rfl
  | some x => rfl
def setM (M : Me) (k : Int) (v : AV) (clk : Nat) : Me := match findI k M 0 with
  | none => M ++ [(k, v, clk)]
  | some x => M.modify x.1 fun e => (k, v, e.2.2)
theorem w_set {kt et : TypeId} {kd : IntKind} (hk : PP.underlying kt = some (.int kd)) {m clk : Nat} {M : Me} (h : H.get m = some (.mp (ents M) clk)) (k : Int) (v : AV) :
    ∃ clk', w_mapUpdate PP kt et H (.map (some m)) (.int .i64 k) v = some (.skip (H.put m (some (.mp (ents (setM M k v clk)) clk')))) := by
  simp only [w_mapUpdate, oMapUpdate, keyT, hk, val_mk, br_true, mapPut, mpTo, h, findA_ints, ob_some, AH.putTo_eq]
  unfold setM
  cases findI k M 0 with
  | none => exact ⟨clk + 1, by simp only [sO, ob_some, List.map_append]; rfl⟩
  | some x =>
    refine ⟨clk, ?_⟩
    have e : (ents M).modify x.1 (fun e => (AV.int .i64 k, v, e.2.2)) = ents (M.modify x.1 fun e => (k, v, e.2.2)) := by
      apply List.ext_getElem?
      intro j
      simp only [List.getElem?_modify, List.getElem?_map]
      cases M[j]? with
      | none => rfl
      | some y => by_cases c : x.1 = j <;> simp [c]
    simp only [sO, ob_some, e]
/-- When each entry came: all unlike, before the clock. -/
def St (M : Me) (clk : Nat) : Prop := (∀ e ∈ M, e.2.2 < clk) ∧ (M.map fun e => e.2.2).Nodup
theorem st_nil (clk : Nat) : St [] clk := ⟨by simp, by simp⟩
theorem w_setS {kt et : TypeId} {kd : IntKind} (hk : PP.underlying kt = some (.int kd)) {m clk : Nat} {M : Me} (h : H.get m = some (.mp (ents M) clk)) (k : Int) (v : AV) :
    ∃ clk', w_mapUpdate PP kt et H (.map (some m)) (.int .i64 k) v = some (.skip (H.put m (some (.mp (ents (setM M k v clk)) clk')))) ∧ (St M clk → St (setM M k v clk) clk') := by
  simp only [w_mapUpdate, oMapUpdate, keyT, hk, val_mk, br_true, mapPut, mpTo, h, findA_ints, ob_some, AH.putTo_eq]
  unfold setM
  cases findI k M 0 with
  | none =>
    refine ⟨clk + 1, by simp only [sO, ob_some, List.map_append]; rfl, fun hs => ⟨fun e he => ?_, ?_⟩⟩
    · rcases List.mem_append.1 he with q | q
      · have := hs.1 e q; omega
      · rw [List.mem_singleton.1 q]; exact Nat.lt_succ_self _
    · rw [List.map_append]
      refine List.nodup_append.2 ⟨hs.2, by simp, fun a ha b hb => ?_⟩
      obtain ⟨e, he, rfl⟩ := List.mem_map.1 ha
      have := hs.1 e he
      simp at hb; omega
  | some x =>
    have e : (ents M).modify x.1 (fun e => (AV.int .i64 k, v, e.2.2)) = ents (M.modify x.1 fun e => (k, v, e.2.2)) := by
      apply List.ext_getElem?
      intro j
      simp only [List.getElem?_modify, List.getElem?_map]
      cases M[j]? with
      | none => rfl
      | some y => by_cases c : x.1 = j <;> simp [c]
    have eb : (M.modify x.1 fun e => (k, v, e.2.2)).map (fun e => e.2.2) = M.map fun e => e.2.2 := by
      apply List.ext_getElem?
      intro j
      simp only [List.getElem?_modify, List.getElem?_map]
      cases M[j]? with
      | none => rfl
      | some y => by_cases c : x.1 = j <;> simp [c]
    refine ⟨clk, by simp only [sO, ob_some, e], fun hs => ⟨fun y hy => ?_, by rw [eb]; exact hs.2⟩⟩
    have hm : y.2.2 ∈ (M.modify x.1 fun e => (k, v, e.2.2)).map fun e => e.2.2 := List.mem_map.2 ⟨y, hy, rfl⟩
    rw [eb] at hm
    obtain ⟨e', he', q⟩ := List.mem_map.1 hm
    rw [← q]; exact hs.1 e' he'
theorem w_len_map {t kt et : TypeId} (ht : PP.underlying t = some (.map kt et)) {m clk : Nat} {M : Me} (h : H.get m = some (.mp (ents M) clk)) : w_len PP t H (.map (some m)) = some (.val (.int .i64 M.length) H) := by
  simp only [w_len, lenF, ht, oArgs1v, val_mk, mpTo, h, ob_some, vO, List.length_map, Int.ofNat_eq_natCast]
theorem w_make_map : w_makeMap H none = some (.val (.map (some H.next)) (H.new (.mp (ents []) 0))) := by
  simp only [w_makeMap, oMap, val_mk, newTo_none_eq]; rfl
end
end Go.Ab
